/- ValueOrders: what the law is handed. -/
import Derived.Test.YtlodbaikbgbhjaaValueH
import Derived.Test.YtlodbaikbgbhjaaProg
set_option linter.unusedVariables false
set_option linter.unusedSimpArgs false
set_option maxRecDepth 20000
namespace Go.Proofs.Ytlodbaikbgbhjaa
open Go Go.Vm

theorem valueT : ValueT Try.prog ty_Value ty_int ty_uint64 ty_string ty_LValue := ⟨⟨_, Try.underlying25, rfl⟩, Try.underlying3, Try.underlying22, Try.underlying9, Try.underlying23⟩
theorem law_ValueOrders : ∀ xs b, WTvs Try.prog [ty_Value, ty_Value] b xs → b ≤ 1048576 → RelP (fun ((a, b) : V × V) => okV a ∧ okV b) (fun (a, b) => [pvV a, pvV b]) (fun _ => bl true) (xs.map .pu) [] fun r _ => r = .pu (.val (.bool true)) := by
  intro xs b hw hb
  obtain ⟨p0, b0, r0, c0, rfl, rfl, h0, hw⟩ := hw
  obtain ⟨p1, b1, r1, c1, rfl, rfl, h1, hw⟩ := hw
  obtain ⟨rfl, rfl⟩ := hw
  obtain ⟨u, rfl, k0⟩ := wtv_value valueT (by omega) h0
  obtain ⟨v, rfl, k1⟩ := wtv_value valueT (by omega) h1
  exact ⟨rfl, (u, v), ⟨k0, k1⟩, rfl, rfl⟩
end Go.Proofs.Ytlodbaikbgbhjaa
