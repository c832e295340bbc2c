/- The reference's colours: three bytes with two digits each. -/
import Derived.Test.YtpgjpnnjlilokaaDoorPtText
import Derived.Test.YtpgjpnnjlilokaaDoorTxTld
import Derived.Deep.RegionLaw
import Derived.Deep.RegionWith
namespace Go.Proofs.YtpgjpnnjlilokaaDoor
open Go.RowKit Go.Sort Go.Shelf
set_option linter.unusedVariables false
theorem wrap8 (u : Nat) (h : u ≤ 255) : IntKind.u8.wrap ((u : Int) / 16) = (u : Int) / 16 := by
  simp [IntKind.wrap, IntKind.bits, IntKind.signed]; omega
theorem tmod8 (u : Nat) : ((u : Int)).tmod 16 = (u : Int) % 16 := Int.tmod_eq_emod_of_nonneg (by omega)
theorem quo16 (u : Nat) (h : u ≤ 255) (V : World) : Sem.run Tryd.prog (binOp .quo 5 (.int .u8 (u : Int)) (.int .u8 16)) V = .ok (.int .u8 ((u : Int) / 16)) V := by
  go_simp
  exact wrap8 u h
theorem rem16 (u : Nat) (V : World) : Sem.run Tryd.prog (binOp .rem 5 (.int .u8 (u : Int)) (.int .u8 16)) V = .ok (.int .u8 ((u : Int) % 16)) V := by
  go_simp
  exact tmod8 u
set_option maxRecDepth 100000 in
set_option maxHeartbeats 2000000 in
theorem colours_is (b o ca : Nat) (px : Nat → Int) (j : Nat) (w : World) (hb : b < w.heap.size) (hc : ∀ i, i < 3 → w.cell? ⟨b, o + i, none⟩ = some (.int .u8 (px (3 * j + i)))) (hpx : ∀ i, 0 ≤ px i ∧ px i ≤ 255) :
    Calls Tryd.prog 23 #[.slice (some ⟨b, o, none⟩) 3 ca] w fun e w' => e = .returned (.string (Tx.mk (Pt.cols px j))) ∧ Below w.heap.size w w' := by
  have HC := Lib.hid hc; clear hc
  go_enter Tryd.func23, Tryd.ntmps23
  go_wp2_with fail
  go_loopg [3, 8] 3 (fun gk s i wr => ∃ c : Nat, c ≤ 3 ∧ gk = 3 - c ∧ s = .string (Tx.mk (Pt.hexes px j c)) ∧ i = .int .i64 c ∧ Below w.heap.size w wr)
  case atStart => exact ⟨0, by omega, rfl, rfl, rfl, Below.refl _ _⟩
  case round =>
    obtain ⟨c, hc3, rfl, rfl, rfl, hB⟩ := hrel
    by_cases hlt : c < 3
    · have c0 := cell_below hB (HC.out c hlt)
      have hxl := Pt.hexes_len px j c
      have hpx' := hpx (3 * j + c)
      obtain ⟨u, hu⟩ := Int.eq_ofNat_of_zero_le hpx'.1
      have hu255 : u ≤ 255 := by omega
      have he : Pt.hexes px j (c + 1) = Pt.hexes px j c ++ [Pt.hx (u / 16), Pt.hx (u % 16)] := by
        show _ ++ Pt.hex2 (px (3 * j + c)).toNat = _
        rw [hu]; rfl
      have hcat := cat_mk (Pt.hexes px j c) [Pt.hx (u / 16), Pt.hx (u % 16)] (by simp [hxl]; omega)
      rw [← he] at hcat
      rw [hu] at c0
      have hq := quo16 u hu255
      have hr := rem16 u
      have hqw := wrap8 u hu255
      have hrt := tmod8 u
      have hHi := hxHi u hu255
      have hLo := hxLo u hu255
      clear he hu hpx' hxl
      generalize hM1 : Tx.mk (Pt.hexes px j (c + 1)) = M1 at *
      have HM1 : Hid (Value.string (Tx.mk (Pt.hexes px j (c + 1))) = Value.string M1) := by show _ = _; rw [hM1]
      clear hM1
      have hx2 : ∀ V : World, (convert 22 9 (.slice (some ⟨V.heap.size, 0, none⟩) 2 2)).run Tryd.prog (V.alloc (.cells #[.int .u8 ((Pt.hx (u / 16)).toNat : Int), .int .u8 ((Pt.hx (u % 16)).toNat : Int)] 5)) = .ok (.string (Tx.mk [Pt.hx (u / 16), Pt.hx (u % 16)])) (V.alloc (.cells #[.int .u8 ((Pt.hx (u / 16)).toNat : Int), .int .u8 ((Pt.hx (u % 16)).toNat : Int)] 5)) := fun V =>
        run_convert_bytes_back _ 22 9 5 ⟨V.heap.size, 0, none⟩ 2 [Pt.hx (u / 16), Pt.hx (u % 16)] Tryd.underlying22 Tryd.underlying5 Tryd.underlying9 (fun i hi => by
          have h2 := (Blk.new V #[.int .u8 ((Pt.hx (u / 16)).toNat : Int), .int .u8 ((Pt.hx (u % 16)).toNat : Int)] 5).two
          have hi2 : i < 2 := hi
          by_cases e : i = 0
          · subst e; exact h2.1
          · obtain rfl : i = 1 := by omega
            exact h2.2)
      have hx3 := hx2 wr
      have hx4 : (convert 22 9 (.slice (some ⟨wr.heap.size, 0, none⟩) 2 2)).run Tryd.prog (wr.alloc (.cells #[.int .u8 ((Pt.hx (u / 16)).toNat : Int), .int .u8 ((Pt.hx (u % 16)).toNat : Int)] 5)).drew = .ok (.string (Tx.mk [Pt.hx (u / 16), Pt.hx (u % 16)])) (wr.alloc (.cells #[.int .u8 ((Pt.hx (u / 16)).toNat : Int), .int .u8 ((Pt.hx (u % 16)).toNat : Int)] 5)).drew := hx2 wr.drew
      have hA2 := (Below.refl wr.heap.size wr).alloc (Nat.le_refl _) (.cells #[.int .u8 ((Pt.hx (u / 16)).toNat : Int), .int .u8 ((Pt.hx (u % 16)).toNat : Int)] 5)
      clear hx2
      generalize Tx.mk [Pt.hx (u / 16), Pt.hx (u % 16)] = D at *
      go_wp2_with fail
      go_region_with (fail)
      all_goals (go_wp2_with fail)
      all_goals
        go_roundg (3 - (c + 1))
        case rel => exact ⟨c + 1, by omega, rfl, HM1.out.symm, by go_num, below_up hB hA2.drew⟩
        case measure => omega
    · obtain rfl : c = 3 := by omega
      rw [Pt.hexes_three]
      go_wp2_with fail
      go_ret
      exact ⟨rfl, hB⟩
end Go.Proofs.YtpgjpnnjlilokaaDoor
