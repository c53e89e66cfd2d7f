/- PackWrites: the law, of whatever is handed to it. -/
import Derived.Test.YtdjgfjnnafddnaaPackD
import Derived.Test.YtdjgfjnnafddnaaVmR
set_option linter.unusedVariables false
set_option linter.unusedSimpArgs false
namespace Go.Proofs.Ytdjgfjnnafddnaa
open Go Go.Vm Go.IntWalk

theorem law5 : ∀ xs b, WTvs Try.prog [27, 3, 28, 9, 4] b xs → b ≤ 1048576 → DetP F5 (xs.map .pu) [] (.pu (.val (.bool true))) [] := by
  intro xs b hw hb
  obtain ⟨p0, b0, r0, c0, rfl, rfl, h0, hw⟩ := hw
  obtain ⟨p1, b1, r1, c1, rfl, rfl, h1, hw⟩ := hw
  obtain ⟨p2, b2, r2, c2, rfl, rfl, h2, hw⟩ := hw
  obtain ⟨p3, b3, r3, c3, rfl, rfl, h3, hw⟩ := hw
  obtain ⟨p4, b4, r4, c4, rfl, rfl, h4, hw⟩ := hw
  obtain ⟨rfl, rfl⟩ := hw
  obtain ⟨xs, rfl, l0, _⟩ := WTv.bytes Try.underlying27 Try.underlying5 h0
  obtain ⟨n, rfl, w1⟩ := WTv.int Try.underlying3 h1
  obtain ⟨x, rfl, w2⟩ := WTv.int Try.underlying28 h2
  obtain ⟨s, rfl, w3⟩ := WTv.str Try.underlying9 h3
  obtain ⟨y, rfl⟩ := WTv.bool Try.underlying4 h4
  have := wf_i64 w1
  have := wf_u64 w2
  refine ⟨rfl, rfl, _, _, rfl, ?_, rfl⟩
  unfold F5
  simp only [asB_sl]
  rw [chk_pos (by omega)]
end Go.Proofs.Ytdjgfjnnafddnaa
