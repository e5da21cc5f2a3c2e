/- A drawn amount lies from -50000 to 149999, a drawn rate's numerator from 0 to 399, its denominator from 1 to 400. -/
import Derived.Test.YtfccbbbejjdakaaPAllx5
import Derived.Test.YtfccbbbejjdakaaSrc
namespace Go.Proofs.Ytfccbbbejjdakaa
open Go.RowKit Go.Proofs.Ytfccbbbejjdakaa.PAll Go.Proofs.YtfccbbbejjdakaaW.PrintWords Go.Proofs.YtfccbbbejjdakaaW.PrintLast

theorem amount_ok {l : List Int} (hl : (l.length : Int) ≤ 1048576) (hb : ∀ x ∈ l, (Lit.int .u8 x).wf = true) :
    ∃ n a b, spec_AmountOf.f l = some (n, a, b) ∧ -50000 ≤ n ∧ n < 150000 ∧ 0 ≤ a ∧ a < 400 ∧ 1 ≤ b ∧ b ≤ 400 := by
  have h := source_ok hl hb
  unfold spec_AmountOf.f spec_l00Source.f
  simp only [Option.bind_some]
  obtain ⟨n, i1, s1, e1, n0, n1, _, a1, b1, h1⟩ := next_ok 200000 h (by omega) (by omega)
  rw [e1]; simp only [Option.bind_some]
  obtain ⟨a, i2, s2, e2, a0, a1', _, a2, b2, h2⟩ := next_ok 400 h1 (by omega) (by omega)
  rw [e2]; simp only [Option.bind_some]
  obtain ⟨b, i3, s3, e3, b0, b1', _, a3, b3, h3⟩ := next_ok 400 h2 (by omega) (by omega)
  rw [e3]; simp only [Option.bind_some]
  have := n1 (by omega)
  have := a1' (by omega)
  have := b1' (by omega)
  rw [w64 (x := n - 50000) (by omega) (by omega), w64 (x := 1 + b) (by omega) (by omega)]
  exact ⟨_, _, _, rfl, by omega, by omega, by omega, by omega, by omega, by omega⟩

end Go.Proofs.Ytfccbbbejjdakaa
