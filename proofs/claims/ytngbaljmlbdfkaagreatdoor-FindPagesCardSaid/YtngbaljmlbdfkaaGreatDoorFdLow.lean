/- find.low: whether a string has a byte below 32. -/
import Derived.Test.YtngbaljmlbdfkaaGreatDoorFdStr3
import Derived.Shelf.Abstract
namespace Go.Proofs.YtngbaljmlbdfkaaGreatDoor
open Go.RowKit Go.Sort Go.Shelf
set_option linter.unusedVariables false
set_option maxHeartbeats 1000000 in
theorem indexFuncB_any (g : Nat) (lb : Array Value) (p : Int → Bool) (eg : ∀ args w, (callFunc g args).run Tryz.prog w = .ok (.enter g args) w) (a : Option Addr) (len cap : Nat) (z : Nat → Int) (w : World) (hm : len ≤ 9223372036854775807) (hr : Row w a len (fun i => .int .u8 (z i)))
    (hc : ∀ i, i < len → Calls Tryz.prog g (#[.int .u8 (z i)] ++ lb) w fun e w' => e = .returned (.bool (p (z i))) ∧ w = w') :
    Calls Tryz.prog 192 #[.slice a len cap, .func (.func g) #[] lb] w fun e w' => (∃ r : Int, e = .returned (.int .i64 r) ∧ ((Ev.anyB p z len = true ∧ 0 ≤ r) ∨ (Ev.anyB p z len = false ∧ r = -1))) ∧ w = w' := by
  go_enter Tryz.func192, Tryz.ntmps192
  go_wp2_with fail
  go_loop [8] (fun i => ∃ k : Nat, k ≤ len ∧ i = .int .i64 k ∧ ∀ j, j < k → p (z j) = false) (fun i => (len - (intOf i).toNat))
  case atStart => exact ⟨0, by omega, rfl, fun j hj => by omega⟩
  case round =>
    obtain ⟨k, hk, rfl, hno⟩ := hrel
    have HNO := Lib.hid hno; clear hno
    have HC := Lib.hid hc; clear hc
    by_cases hlt : k < len
    · obtain ⟨b, off, rfl, hb, hcell⟩ := hr (by omega)
      have hcx := hcell k hlt
      clear hcell
      cases hp : p (z k)
      · have HP := Lib.hid hp; clear hp
        go_wp2_with (go_at_fn g; refine (HC.out k hlt).mono ?_; rintro e w' ⟨rfl, rfl⟩; rw [HP.out])
        go_round
        case rel => exact ⟨k + 1, by omega, by go_num, fun j hj => by (by_cases e : j = k); exact e ▸ HP.out; exact HNO.out j (by omega)⟩
        case measure => simp [intOf]; omega
      · have HP := Lib.hid hp; clear hp
        go_wp2_with (go_at_fn g; refine (HC.out k hlt).mono ?_; rintro e w' ⟨rfl, rfl⟩; rw [HP.out])
        go_ret
        exact ⟨⟨k, rfl, .inl ⟨Ev.anyB_yes k hlt HP.out, by omega⟩⟩, rfl⟩
    · obtain rfl : k = len := by omega
      go_wp2_with fail
      go_ret
      exact ⟨⟨-1, rfl, .inr ⟨Ev.anyB_no HNO.out, rfl⟩⟩, rfl⟩
set_option maxHeartbeats 1000000 in
theorem containsFuncB_any (g : Nat) (lb : Array Value) (p : Int → Bool) (eg : ∀ args w, (callFunc g args).run Tryz.prog w = .ok (.enter g args) w) (a : Option Addr) (len cap : Nat) (z : Nat → Int) (w : World) (hm : len ≤ 9223372036854775807) (hr : Row w a len (fun i => .int .u8 (z i)))
    (hc : ∀ i, i < len → Calls Tryz.prog g (#[.int .u8 (z i)] ++ lb) w fun e w' => e = .returned (.bool (p (z i))) ∧ w = w') :
    Calls Tryz.prog 159 #[.slice a len cap, .func (.func g) #[] lb] w fun e w' => e = .returned (.bool (Ev.anyB p z len)) ∧ w = w' := by
  have HI := Lib.hid (indexFuncB_any g lb p eg a len cap z w hm hr hc)
  clear hc eg hr
  go_enter Tryz.func159, Tryz.ntmps159
  go_wp2_with (go_at_call 192; refine HI.out.mono ?_; rintro e w' ⟨⟨r, rfl, hr⟩, rfl⟩; have HR := Lib.hid hr; clear hr)
  go_ret
  refine ⟨ret_bool ?_, rfl⟩
  rcases HR.out with ⟨h, h0⟩ | ⟨h, rfl⟩
  · rw [h]; simpa using h0
  · rw [h]; rfl
theorem low1_is (c : Int) (w : World) : Calls Tryz.prog 160 #[.int .u8 c] w fun e w' => e = .returned (.bool (decide (c < 32))) ∧ w = w' := by
  go_enter Tryz.func160, Tryz.ntmps160
  go_wp2_with fail
  go_ret
  exact ⟨rfl, rfl⟩
theorem low1_eg : ∀ args w, (callFunc 160 args).run Tryz.prog w = .ok (.enter 160 args) w := enters_of Tryz.func160 (by kernel_rfl) rfl
theorem byte_at (s : ByteArray) (i : Nat) (h : i < s.size) : s.data.toList.getD i 0 = s[i] := by
  have hl : i < s.data.toList.length := by simpa using h
  rw [List.getD_eq_getElem?_getD, List.getElem?_eq_getElem hl]; rfl
theorem low_any (s : ByteArray) : Ev.anyB (fun c => decide (c < 32)) (fun i => ((s.data.toList.getD i 0).toNat : Int)) s.size = !Fd.plainB s := by
  cases h : Fd.plainB s
  · unfold Fd.plainB at h
    rw [decide_eq_false_iff_not] at h
    have : ∃ i, ∃ h : i < s.size, s[i].toNat < 32 := by
      apply Classical.byContradiction
      intro g
      exact h fun i hi => by
        apply Classical.byContradiction
        intro k; exact g ⟨i, hi, by omega⟩
    obtain ⟨i, hi, hc⟩ := this
    exact Ev.anyB_yes i hi (by rw [decide_eq_true_iff]; rw [byte_at s i hi]; omega)
  · unfold Fd.plainB at h
    have h := of_decide_eq_true h
    exact Ev.anyB_no fun i hi => by rw [decide_eq_false_iff_not]; rw [byte_at s i hi]; have := h i hi; omega
set_option maxRecDepth 100000 in
theorem low_is (s : ByteArray) (hs : s.size ≤ 9223372036854775807) (b : Bool) (h : Fd.plainB s = b) (w : World) : Calls Tryz.prog 126 #[.string s] w fun e w' => e = .returned (.bool (!b)) ∧ Below w.heap.size w w' := by
  have hcv := Lib.run_convert_string_bytes (P := Tryz.prog) w 9 143 5 s (u := .string) Tryz.underlying9 Tryz.underlying143 Tryz.underlying5
  have HW : Hid (Below w.heap.size w (Lib.bytesWorld w 5 s)) := Lib.hid (bytesWorld_below w 5 s)
  have HC := Lib.hid (containsFuncB_any 160 #[] (fun c => decide (c < 32)) low1_eg (some ⟨w.heap.size, 0, none⟩) s.size (grownCap w s.size 0 5) (fun i => ((s.data.toList.getD i 0).toNat : Int)) (Lib.bytesWorld w 5 s) hs
    (fun _ => ⟨w.heap.size, 0, rfl, by rw [Lib.bytesWorld_size]; omega, fun i hi => by rw [Nat.zero_add]; exact Lib.bytesWorld_cell w 5 s i hi⟩) (fun i hi => low1_is _ _))
  rw [low_any, h] at HC
  clear h
  go_enter Tryz.func126, Tryz.ntmps126
  go_wp2_with (go_at_call 159; refine HC.out.mono ?_; rintro e w' ⟨rfl, rfl⟩)
  go_ret
  exact ⟨rfl, HW.out⟩
end Go.Proofs.YtngbaljmlbdfkaaGreatDoor
