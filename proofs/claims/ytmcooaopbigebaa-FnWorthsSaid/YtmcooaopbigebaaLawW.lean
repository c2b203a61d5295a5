/- Plain laws for the law FnWorths: the worths without the first unit. No condition. -/
import Derived.Test.YtmcooaopbigebaaLawK
namespace Go.Proofs.Ytmcooaopbigebaa
open Go.RowKit
set_option linter.unusedVariables false

theorem wor_tail {rs : List Int} (h : rs ≠ []) : (wor rs).tail = wor rs.tail := by
  cases rs with
  | nil => exact absurd rfl h
  | cons r rs => rfl
theorem vldR_tail {rs : List Int} (h : vldR rs = true) : vldR rs.tail = true := by
  obtain ⟨h1, h2⟩ := vldR_iff.1 h
  exact vldR_iff.2 ⟨by rw [List.length_tail]; omega, fun r hr => h2 r (List.mem_of_mem_tail hr)⟩
theorem tail_rd2 {w : World} {B b off : Nat} {d : List Int} (h : RD .i64 w B (some ⟨b, off, none⟩) d) (hp : 0 < d.length) : RD .i64 w B (some ⟨b, off + 1, none⟩) d.tail := by
  cases d with
  | nil => simp at hp
  | cons x d => exact tail_rd h

end Go.Proofs.Ytmcooaopbigebaa
