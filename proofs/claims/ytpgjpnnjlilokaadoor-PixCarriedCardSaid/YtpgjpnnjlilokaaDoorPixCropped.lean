/- The reference's Cropped. -/
import Derived.Test.YtpgjpnnjlilokaaDoorPixGrow
import Derived.Deep.DrawnRows
import Derived.Deep.AppendLies
namespace Go.Proofs.YtpgjpnnjlilokaaDoor
open Go.RowKit Go.Sort
set_option linter.unusedVariables false
attribute [local go_sem ↓] Go.wp_at_zero Go.wp_at_succ
theorem infoByte2 : (Tryd.prog.info? 5).map (fun i => (i.zero, i.size, i.bytes)) = some (some (.int .u8 0), 1, 1) := by kernel_rfl
theorem news3 {w : World} {b off n : Nat} {px : Nat → Int} (h : ∀ i, i < n → w.cell? ⟨b, off + i, none⟩ = some (.int .u8 (px i))) {k : Nat} (hk : k + 3 ≤ n) :
    ∀ j u, [Value.int .u8 (px k), .int .u8 (px (k + 1)), .int .u8 (px (k + 2))][j]? = some u → w.cell? ((⟨b, off + k, none⟩ : Addr).add j) = some u := by
  intro j u hu
  have hadd : (⟨b, off + k, none⟩ : Addr).add j = ⟨b, off + (k + j), none⟩ := by unfold Addr.add; split <;> simp_all [Nat.add_assoc]
  rw [hadd]
  match j, hu with
  | 0, hu => simp at hu; subst hu; exact h k (by omega)
  | 1, hu => simp at hu; subst hu; exact h (k + 1) (by omega)
  | 2, hu => simp at hu; subst hu; exact h (k + 2) (by omega)
  | j + 3, hu => simp at hu
end Go.Proofs.YtpgjpnnjlilokaaDoor
