/- Nodes of a tree: their cells and rows, as a view and as one piece of memory. No condition. -/
import Derived.Test.YtnibbldfohbfkaaStrS
import Derived.Test.YtnibbldfohbfkaaTabG
namespace Go.Proofs.Ytnibbldfohbfkaa
open Go.RowKit

@[ext] structure Nd where
  fold : Bool
  own : Int
  grp : Int
  mode : Int
  text : ByteArray
  N : List ByteArray
  K : List Int
/-- A node as it lies: with where its rows are. -/
structure Nc where
  n : Nd
  an : Option Addr
  cn : Nat
  ak : Option Addr
  ck : Nat
def encNc (c : Nc) : List Value := [.bool c.n.fold, .int .i64 c.n.own, .int .i64 c.n.grp, .int .i64 c.n.mode, .string c.n.text, .slice c.an c.n.N.length c.cn, .slice c.ak c.n.K.length c.ck]
theorem encNc_len (c : Nc) : (encNc c).length = 7 := rfl
theorem encNc_one (c : Nc) : ∀ u ∈ encNc c, u.oneCell' = true := by simp [encNc, Value.oneCell']
def Nc.rd (w : World) (c : Nc) : Prop := c.n.N.length ≤ c.cn ∧ c.n.K.length ≤ c.ck ∧ Rd 1 encStr1 w c.an c.n.N ∧ Rd 1 encInt1 w c.ak c.n.K
theorem Nc.rd.ext {w w' : World} {c : Nc} (h : c.rd w) (hE : Ext w w') : c.rd w' := ⟨h.1, h.2.1, h.2.2.1.ext hE, h.2.2.2.ext hE⟩

/-- A read-only view of nodes. -/
def RdN (w : World) (a : Option Addr) (T : List Nd) : Prop := ∃ vs : List Nc, vs.map (·.n) = T ∧ Rd 7 encNc w a vs ∧ ∀ c ∈ vs, c.rd w
theorem RdN.ext {w w' : World} {a : Option Addr} {T : List Nd} (h : RdN w a T) (hE : Ext w w') : RdN w' a T := by
  obtain ⟨vs, h1, h2, h3⟩ := h
  exact ⟨vs, h1, h2.ext hE, fun c hc => (h3 c hc).ext hE⟩
theorem atNd {w : World} {a : Option Addr} {T : List Nd} (h : RdN w a T) {k : Nat} (hk : k < T.length) :
    ∃ (x : Nd) (b off : Nat) (an : Option Addr) (cn : Nat) (ak : Option Addr) (ck : Nat), T[k]? = some x ∧ a = some ⟨b, off, none⟩ ∧ w.cell? ⟨b, off + k * 7, none⟩ = some (.bool x.fold) ∧ w.cell? ⟨b, off + k * 7 + 1, none⟩ = some (.int .i64 x.own) ∧ w.cell? ⟨b, off + k * 7 + 2, none⟩ = some (.int .i64 x.grp) ∧
      w.cell? ⟨b, off + k * 7 + 3, none⟩ = some (.int .i64 x.mode) ∧ w.cell? ⟨b, off + k * 7 + 4, none⟩ = some (.string x.text) ∧ w.cell? ⟨b, off + k * 7 + 5, none⟩ = some (.slice an x.N.length cn) ∧ w.cell? ⟨b, off + k * 7 + 6, none⟩ = some (.slice ak x.K.length ck) ∧
      x.N.length ≤ cn ∧ x.K.length ≤ ck ∧ Rd 1 encStr1 w an x.N ∧ Rd 1 encInt1 w ak x.K := by
  obtain ⟨vs, rfl, h2, h3⟩ := h
  have hk' : k < vs.length := by simpa using hk
  obtain ⟨b, off, ha, hc⟩ := h2 k hk'
  obtain ⟨g1, g2, g3, g4⟩ := h3 vs[k] (List.getElem_mem hk')
  refine ⟨vs[k].n, b, off, vs[k].an, vs[k].cn, vs[k].ak, vs[k].ck, by rw [List.getElem?_map, List.getElem?_eq_getElem hk']; rfl, ha, hc 0 _ rfl, hc 1 _ rfl, hc 2 _ rfl, hc 3 _ rfl, hc 4 _ rfl, hc 5 _ rfl, hc 6 _ rfl, g1, g2, g3, g4⟩

/-- The rows of a node of one's own. -/
def pinNd : Pin Nc Nd where
  own c b := (Value.slice c.an c.n.N.length c.cn).ownBlock = some b ∨ (Value.slice c.ak c.n.K.length c.ck).ownBlock = some b
  ok c n w := c.n = n ∧ w.ownsRow 0 9 1 (.slice c.an c.n.N.length c.cn) c.n.N.length (c.n.N.flatMap encStr1) ∧ w.ownsRow 0 3 1 (.slice c.ak c.n.K.length c.ck) c.n.K.length (c.n.K.flatMap encInt1) ∧
    ∀ b : Nat, (Value.slice c.an c.n.N.length c.cn).ownBlock = some b → (Value.slice c.ak c.n.K.length c.ck).ownBlock ≠ some b
  frame c n w w' h hf := ⟨h.1, (plRow 9 1 encStr1 (.slice c.an c.n.N.length c.cn) c.n.N).frame w w' h.2.1 (fun b hb => hf b (.inl hb)), (plRow 3 1 encInt1 (.slice c.ak c.n.K.length c.ck) c.n.K).frame w w' h.2.2.1 (fun b hb => hf b (.inr hb)), h.2.2.2⟩
  lt c n w b h hb := hb.elim (fun hb => (plRow 9 1 encStr1 (.slice c.an c.n.N.length c.cn) c.n.N).lt w b h.2.1 hb) (fun hb => (plRow 3 1 encInt1 (.slice c.ak c.n.K.length c.ck) c.n.K).lt w b h.2.2.1 hb)
theorem pin_rd {c : Nc} {n : Nd} {w : World} (h : pinNd.ok c n w) : c.rd w := by
  obtain ⟨_, h1, h2, _⟩ := h
  obtain ⟨a, cap, hv, hl, hr, _⟩ := view_owns encStr1_len h1
  simp only [Value.slice.injEq, true_and] at hv
  obtain ⟨rfl, rfl⟩ := hv
  obtain ⟨a, cap, hv, hl2, hr2, _⟩ := view_owns encInt1_len h2
  simp only [Value.slice.injEq, true_and] at hv
  obtain ⟨rfl, rfl⟩ := hv
  exact ⟨hl, hl2, hr, hr2⟩
abbrev plNd (u : Value) (vs : List Nc) (T : List Nd) : Pl := plG 57 7 encNc pinNd u vs T
theorem nd_map {w : World} {u : Value} {vs : List Nc} {T : List Nd} (h : (plNd u vs T).ok w) : vs.map (·.n) = T := by
  obtain ⟨_, h2, h3, _⟩ := h
  apply List.ext_getElem?
  intro i
  by_cases hi : i < vs.length
  · have := (h3 i vs[i] T[i] (List.getElem?_eq_getElem hi) (List.getElem?_eq_getElem (by omega))).1
    rw [List.getElem?_map, List.getElem?_eq_getElem hi, List.getElem?_eq_getElem (by omega : i < T.length), Option.map_some, this]
  · rw [List.getElem?_eq_none (by simp; omega), List.getElem?_eq_none (by omega)]
theorem nd_view {w : World} {u : Value} {vs : List Nc} {T : List Nd} (h : (plNd u vs T).ok w) : ∃ a cap, u = .slice a T.length cap ∧ T.length ≤ cap ∧ RdN w a T := by
  have hm := nd_map h
  obtain ⟨h1, h2, h3, h4, h5⟩ := h
  obtain ⟨a, cap, hu, hc, hr, hs⟩ := view_owns encNc_len h1
  refine ⟨a, cap, by rw [hu, h2], by omega, vs, hm, hr, fun c hc => ?_⟩
  obtain ⟨i, hi⟩ := List.getElem?_of_mem hc
  have hil := (List.getElem?_eq_some_iff.1 hi).1
  exact pin_rd (h3 i c T[i] hi (List.getElem?_eq_getElem (by omega)))
theorem SepM.rdN {M : Nat → Prop} {w0 w : World} {H : List Pl} (S : SepM M w0 w H) (i : Nat) {a : Option Addr} {n cap : Nat} {vs : List Nc} {T : List Nd} (h : H[i]? = some (plNd (.slice a n cap) vs T)) : RdN w a T := by
  obtain ⟨a', cap', hu, _, hr⟩ := nd_view (S.at_ i h)
  simp only [Value.slice.injEq] at hu
  rw [hu.1]; exact hr
/-- Two rows become those of a node. -/
theorem SepM.ofRows {M : Nat → Prop} {w0 w : World} {H : List Pl} (S : SepM M w0 w H) (i j : Nat) (c : Nc) (hi : H[i]? = some (plRow 9 1 encStr1 (.slice c.an c.n.N.length c.cn) c.n.N)) (hj : H[j]? = some (plRow 3 1 encInt1 (.slice c.ak c.n.K.length c.ck) c.n.K)) (hij : i ≠ j) :
    SepM M w0 w ((H.set i (pinNd.one c c.n)).eraseIdx j) :=
  S.fuse i j hi hj hij (Chg.refl _ w) (fun hr => ⟨rfl, S.at_ i hi, hr, fun b hb => S.ne hi hj hij hb⟩) (fun b hb => hb.elim .inl (fun h => .inr (.inl h)))

/-- What is short. -/
def SmN (M : Nat) (n : Nd) : Prop := n.text.size ≤ M ∧ n.N.length ≤ M ∧ (∀ s ∈ n.N, s.size ≤ M) ∧ n.K.length ≤ M
theorem infoNd : (Try.prog.info? 57).map (fun i => (i.zero, i.size, i.bytes)) = some (some (.agg #[.bool false, .int .i64 0, .int .i64 0, .int .i64 0, .string ByteArray.empty, .slice none 0 0, .slice none 0 0]), 7, 96) := by kernel_rfl
def zNd : Nd := ⟨false, 0, 0, 0, ByteArray.empty, [], []⟩
def zNc : Nc := ⟨zNd, none, 0, none, 0⟩
theorem zNc_ok (w : World) : pinNd.ok zNc zNd w := ⟨rfl, World.ownsRow_nil _ _ _ _, World.ownsRow_nil _ _ _ _, fun b hb => by cases hb⟩
theorem zNc_own (b : Nat) : ¬ pinNd.own zNc b := fun h => h.elim (fun h => by cases h) (fun h => by cases h)
theorem madeNc (n : Nat) : (madeCells (Value.agg #[.bool false, .int .i64 0, .int .i64 0, .int .i64 0, .string ByteArray.empty, .slice none 0 0, .slice none 0 0]).cells (n * 7)).toList = (List.replicate n zNc).flatMap encNc := by
  apply List.ext_getElem?
  intro j
  by_cases hj : j < n * 7
  · have e : j = j / 7 * 7 + j % 7 := by omega
    have h3 : j % 7 < 7 := Nat.mod_lt _ (by omega)
    have hd : j / 7 < n := by omega
    rw [show ((List.replicate n zNc).flatMap encNc)[j]? = ((List.replicate n zNc).flatMap encNc)[j / 7 * 7 + j % 7]? by rw [← e], flatMap_at encNc_len _ _ _ h3]
    simp [madeCells, Value.cells, hj, hd]
    rcases (show j % 7 = 0 ∨ j % 7 = 1 ∨ j % 7 = 2 ∨ j % 7 = 3 ∨ j % 7 = 4 ∨ j % 7 = 5 ∨ j % 7 = 6 by omega) with h | h | h | h | h | h | h <;> simp [h, encNc, zNc, zNd]
  · rw [List.getElem?_eq_none (by simp [madeCells]; omega), List.getElem?_eq_none (by rw [flatMap_length encNc_len]; simp; omega)]
def mixNd (l : List Nd) (k : Nat) : List Nd := l.take k ++ List.replicate (l.length - k) zNd
theorem mixNd_len (l : List Nd) (k : Nat) (hk : k ≤ l.length) : (mixNd l k).length = l.length := by simp [mixNd]; omega
theorem mixNd_zero (l : List Nd) : mixNd l 0 = List.replicate l.length zNd := by simp [mixNd]
theorem mixNd_full (l : List Nd) : mixNd l l.length = l := by simp [mixNd]
theorem mixNd_set (l : List Nd) (k : Nat) (x : Nd) (hx : l[k]? = some x) : (mixNd l k).set k x = mixNd l (k + 1) := by
  obtain ⟨hk, rfl⟩ := List.getElem?_eq_some_iff.1 hx
  unfold mixNd
  obtain ⟨r, hr⟩ : ∃ r, l.length - k = r + 1 := ⟨l.length - k - 1, by omega⟩
  rw [hr, List.replicate_succ, show l.length - (k + 1) = r by omega, List.set_append, if_neg (by simp; omega), List.take_succ_eq_append_getElem hk, List.length_take, Nat.min_eq_left (Nat.le_of_lt hk), Nat.sub_self, List.set_cons_zero, List.append_assoc]
  rfl
end Go.Proofs.Ytnibbldfohbfkaa
