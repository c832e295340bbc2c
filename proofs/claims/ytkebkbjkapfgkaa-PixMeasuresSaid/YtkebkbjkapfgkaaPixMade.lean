/- SameImage of two images with the same bytes; the laws' function 'made'. -/
import Derived.Test.YtkebkbjkapfgkaaPixSame
import Derived.Deep.RegionHeld3
import Derived.Shelf.Abstract
import Derived.Deep.DrawnRows
namespace Go.Proofs.Ytkebkbjkapfgkaa
open Go.RowKit Go.Sort Go.Shelf
set_option linter.unusedVariables false
attribute [local go_sem ↓] Go.wp_at_zero Go.wp_at_succ
set_option maxHeartbeats 1000000 in
theorem sameImage_same (W H : Int) (a a2 : Option Addr) (n ca ca2 : Nat) (f : Nat → Int) (w : World) (h1 : Bytes w a n f) (h2 : Bytes w a2 n f) (hn : n ≤ 12288) (hca : n ≤ ca) (hca2 : n ≤ ca2) :
    Calls Try.prog 67 #[.agg #[.int .i64 W, .int .i64 H, .slice a n ca], .agg #[.int .i64 W, .int .i64 H, .slice a2 n ca2]] w fun e w' => e = .returned (.bool true) ∧ Below w.heap.size w w' := by
  have HE := Lib.hid (fun V (hV : Below w.heap.size w V) => equal_same a a2 n ca ca2 f V (h1.keep hV) (h2.keep hV) hn hca hca2)
  clear h1 h2
  go_enter Try.func67, Try.ntmps67
  go_wp2_with (go_at_call 74; refine (HE.out _ (below_allocs (below_allocs (Below.refl _ _) _) _)).mono ?_; rintro e w' ⟨rfl, hB⟩)
  go_ret
  exact ⟨rfl, below_up (below_allocs (below_allocs (Below.refl _ _) _) _) hB⟩
set_option maxHeartbeats 1000000 in
theorem made_err (q : Int) (hq : q ≠ 0) (g : Nat) (lb : Array Value) (w : World) :
    Calls Try.prog 16 #[.agg #[.int .i64 0, .int .i64 0, .slice none 0 0], .int .i64 q, .int .i64 q, .func (.func g) #[] lb] w fun e w' => e = .returned (.bool true) ∧ Below w.heap.size w w' := by
  have hq' : (q == 0) = false := by simpa using hq
  go_enter Try.func16, Try.ntmps16
  go_wp2_with (go_at_call 67; refine (sameImage_same 0 0 none none 0 0 0 (fun _ => 0) _ (fun h => by omega) (fun h => by omega) (by omega) (by omega) (by omega)).mono ?_; rintro e w' ⟨rfl, hB⟩)
  go_ret
  exact ⟨rfl, below_up (below_allocs (Below.refl _ _) _) hB⟩
set_option maxHeartbeats 1000000 in
theorem made_ok (g : Nat) (lb : Array Value) (eg : ∀ args w, (callFunc g args).run Try.prog w = .ok (.enter g args) w) (W H : Int) (a : Option Addr) (n ca : Nat) (f : Nat → Int) (w : World) (h1 : Bytes w a n f) (hn : n ≤ 12288) (hca : n ≤ ca)
    (hc : ∀ V, Below w.heap.size w V → Calls Try.prog g lb V fun e w' => ∃ a2 ca2, e = .returned (.agg #[.int .i64 W, .int .i64 H, .slice a2 n ca2]) ∧ Bytes w' a2 n f ∧ n ≤ ca2 ∧ Below V.heap.size V w') :
    Calls Try.prog 16 #[.agg #[.int .i64 W, .int .i64 H, .slice a n ca], .int .i64 0, .int .i64 0, .func (.func g) #[] lb] w fun e w' => e = .returned (.bool true) ∧ Below w.heap.size w w' := by
  obtain ⟨W1, HW1, hP, hs1, hB1⟩ := box w #[.int .i64 W, .int .i64 H, .slice a n ca] 24
  obtain ⟨c0, c1, c2⟩ := hP.three
  have HH := Lib.hid h1
  have HC := Lib.hid hc; clear hc h1
  have H1 := Lib.hid HW1; clear HW1
  go_enter Try.func16, Try.ntmps16
  go_wp2_with fail
  rw [H1.out]
  clear H1
  go_region_held3 (fun w' => w'.cell? ⟨w.heap.size, 0, none⟩ = some (.int .i64 W) ∧ w'.cell? ⟨w.heap.size, 1, none⟩ = some (.int .i64 H) ∧ w'.cell? ⟨w.heap.size, 2, none⟩ = some (.slice a n ca))
    (first | go_keep | exact (hP.keep hBa).three | exact (hP.keep hBb).three)
    (first
      | (go_at_fn g; refine (HC.out _ (hB1.drew)).mono ?_; rintro e w2 ⟨a2, ca2, rfl, hb2, hca2, hB2⟩; have hBa := below_up (Below.refl _ W1).drew hB2)
      | (go_at_call 67; refine (sameImage_same W H a a2 n ca ca2 f _ (HH.out.keep (below_up hB1 hBa)) hb2 hn hca hca2).mono ?_; rintro e w3 ⟨rfl, hB3⟩; have hBb := below_up hBa hB3))
  go_wp2_with fail
  go_ret
  exact ⟨rfl, below_up hB1 hBb⟩
end Go.Proofs.Ytkebkbjkapfgkaa
