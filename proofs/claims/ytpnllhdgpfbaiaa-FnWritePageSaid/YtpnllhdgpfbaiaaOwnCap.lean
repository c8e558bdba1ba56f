/- The capacity of what is owned is not below its length. No condition. -/
import Derived.Test.YtpnllhdgpfbaiaaView
namespace Go.Proofs.Ytpnllhdgpfbaiaa
open Go.RowKit

theorem owns_cap {w : World} {base e nf : Nat} {a : Option Addr} {n cap : Nat} {xs : List Value} (h : w.ownsRow base e nf (.slice a n cap) n xs) : n ≤ cap := by
  rcases h.2 with ⟨h1, h2⟩ | ⟨g, cap', cur, h1, _, _, h2, _⟩
  · simp only [Value.slice.injEq] at h1; omega
  · simp only [Value.slice.injEq] at h1; omega
end Go.Proofs.Ytpnllhdgpfbaiaa
