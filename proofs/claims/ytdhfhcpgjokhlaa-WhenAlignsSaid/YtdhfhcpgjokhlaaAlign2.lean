/- Align, whole: the shifts are gathered in three loops. -/
import Derived.Test.YtdhfhcpgjokhlaaAlign
import Derived.RangeFuncBox
namespace Go.Proofs.Ytdhfhcpgjokhlaa
open Go.RowKit Go.Sort Go.Shelf
set_option linter.unusedVariables false
theorem infoInt : (Try.prog.info? 3).map (fun i => (i.zero, i.size, i.bytes)) = some (some (.int .i64 0), 1, 8) := by kernel_rfl
/-- The slice value v is the call's own (blocks from B on), is not nil, does not lie in block b2, and holds l. -/
def ShOwn (w : World) (B b2 : Nat) (v : Value) (l : List Int) : Prop := ∃ g cap, v = .slice (some ⟨g, 0, none⟩) l.length cap ∧ w.ownsRow B 3 1 v l.length (l.map (.int .i64)) ∧ g ≠ b2 ∧ g < w.heap.size
theorem ShOwn.cast {w : World} {B b2 : Nat} {v : Value} {l l' : List Int} (h : ShOwn w B b2 v l) (e : l = l') : ShOwn w B b2 v l' := e ▸ h
theorem ShOwn.keep {w w' : World} {B b2 : Nat} {v : Value} {l : List Int} (h : ShOwn w B b2 v l) (hb : Below w.heap.size w w') : ShOwn w' B b2 v l := by
  obtain ⟨g, cap, rfl, ho, hne, hlt⟩ := h
  exact ⟨g, cap, rfl, ho.kept (row := none) ⟨hb.os, hb.tape, hb.output, hb.size, fun k hk _ => hb.block k hk⟩ (by simp [Value.ownBlock]), hne, Nat.lt_of_lt_of_le hlt hb.size⟩
theorem ShOwn.other {w : World} {B b2 : Nat} {v : Value} {l : List Int} (h : ShOwn w B b2 v l) (b3 : Nat) (hb : w.heap.size ≤ b3) : ShOwn w B b3 v l := by
  obtain ⟨g, cap, rfl, ho, _, hlt⟩ := h
  exact ⟨g, cap, rfl, ho, by omega, hlt⟩
theorem ShOwn.row {w : World} {B b2 : Nat} {v : Value} {l : List Int} (h : ShOwn w B b2 v l) : ∃ g cap, v = .slice (some ⟨g, 0, none⟩) l.length cap ∧ Row w (some ⟨g, 0, none⟩) l.length (fun i => .int .i64 (l.getD i 0)) := by
  obtain ⟨g, cap, rfl, ho, _, hlt⟩ := h
  refine ⟨g, cap, rfl, fun h0 => ⟨g, 0, rfl, hlt, fun i hi => ?_⟩⟩
  have := ho.cells (g := g) rfl i (.int .i64 (l.getD i 0)) (by simp [hi])
  rwa [show (⟨g, 0, none⟩ : Addr).add i = ⟨g, 0 + i, none⟩ from by unfold Addr.add; split <;> simp_all] at this
/-- Behind an append of one element, the block of which lies behind all. -/
theorem ShOwn.more {w wa w' : World} {B b2 g cap : Nat} {v : Value} {l : List Int} {x : Int} (h : ShOwn w B b2 v l) (hz : w.heap.size ≤ wa.heap.size) (hb2 : b2 < w.heap.size)
    (ho : w'.ownsRow B 3 1 (.slice (some ⟨g, 0, none⟩) (l.length + 1) cap) (l.length + 1) (l.map (.int .i64) ++ [.int .i64 x])) (hn : NewOr wa v.ownBlock g) : ShOwn w' B b2 (.slice (some ⟨g, 0, none⟩) (l.length + 1) cap) (l ++ [x]) := by
  obtain ⟨g0, cap0, rfl, ho0, hne, hlt⟩ := h
  refine ⟨g, cap, by simp, by simpa using ho, ?_, (ho.lt g rfl).2⟩
  rcases hn with hn | hn
  · simp [Value.ownBlock] at hn; omega
  · omega
theorem ShOwn.below {w wa w' : World} {B b2 : Nat} {v : Value} {l : List Int} (h : ShOwn w B b2 v l) (hg : wa.grownBy w' v.ownBlock) {W : World} (hb : Below B W wa) (hB : B ≤ wa.heap.size) : Below B W w' := by
  obtain ⟨g0, cap0, rfl, ho0, hne, hlt⟩ := h
  exact hb.grown hg hB (fun k e => by simp [Value.ownBlock] at e; subst e; exact (ho0.lt _ rfl).1)
theorem ShOwn.block {w : World} {B b2 : Nat} {v : Value} {l : List Int} (h : ShOwn w B b2 v l) : v.ownBlock ≠ some b2 := by
  obtain ⟨g0, cap0, rfl, ho0, hne, hlt⟩ := h
  simp [Value.ownBlock, hne]
set_option maxRecDepth 100000 in
set_option maxHeartbeats 4000000 in
theorem align_ok (a : Option Addr) (n ca : Nat) (z : Nat → Int) (a2 : Option Addr) (m cb : Nat) (y : Nat → Int) (k : Int) (w : World) (hra : Row w a n (fun i => .int .i64 (z i))) (hrb : Row w a2 m (fun i => .int .i64 (y i))) (most : Int) (he : Ev.err z y n m k = 0) (hmo : Ev.mom most = true) :
    Calls Try.prog 17 #[.slice a n ca, .slice a2 m cb, .int .i64 k, .int .i64 most] w fun e w' => e = .returned (.tuple #[.int .i64 (Ev.out z y n m k most n).1, .int .i64 (Ev.out z y n m k most n).2, .int .i64 0]) ∧ Below w.heap.size w w' := by
  obtain ⟨hn, hm, hz, hy, hk1, hk2⟩ := Ev.err_zero he
  have hmb := (Ev.mom_iff most).1 hmo
  have HE := Lib.hid (fun W hA hB => checkEvents_is a n ca z a2 m cb y k W hA hB (by omega) (by omega))
  rw [he] at HE
  have HBS := Lib.hid (fun W hA hB => bestShift_is a n ca z a2 m cb y k W hA hB he)
  have HMO := Lib.hid hmo
  have HRA := Lib.hid hra; have HRB := Lib.hid hrb; have HZ := Lib.hid hz; have HY := Lib.hid hy
  obtain ⟨i0, hi0, hz0, hz1, hz2⟩ := info_parts infoInt
  have HI0 := Lib.hid hi0; have HI1 := Lib.hid hz0; have HI2 := Lib.hid hz1; have HI3 := Lib.hid hz2
  clear he hra hrb hz hy hmo hi0 hz0 hz1 hz2
  go_enter Try.func17, Try.ntmps17
  go_wp2_with (first | (go_at_call 47; refine (HE.out _ HRA.out HRB.out).mono ?_; rintro e w1 ⟨rfl, hB⟩) | (go_at_call 53; refine (isMoment_is _ true HMO.out _).mono ?_; rintro e w2 ⟨rfl, rfl⟩))
  have hB0 := hB
  go_loopg [12, 32] n (fun gk v i wr => ∃ j : Nat, j ≤ n ∧ gk = n - j ∧ i = .int .i64 j ∧ ShOwn wr w.heap.size wr.heap.size v (Ev.allS z y m k most j) ∧ Below w.heap.size w wr)
  case atStart => exact ⟨0, by omega, rfl, rfl, ⟨w1.heap.size, 1, rfl, ownsRow_new w1 w.heap.size 3 #[.int .i64 0] hB.size (by simp [maxLen]), by simp, by simp⟩, hB.alloc hB.size _⟩
  case round =>
    clear hB hB0
    obtain ⟨i, hi, rfl, rfl, hSH, hB⟩ := hrel
    have hLA := Ev.allS_len z y m k most i hm (by omega)
    by_cases hlt : i < n
    · obtain ⟨b1, off1, rfl, hb1, hcell1⟩ := (HRA.out.keep hB) (by omega)
      have hc1 := hcell1 i hlt
      have hzi := Ev.moments_bd HZ.out i hlt
      clear hcell1
      go_wp2_with fail
      go_loopg [12, 38] m (fun gk v i' wr => ∃ j : Nat, j ≤ m ∧ gk = m - j ∧ i' = .int .i64 j ∧ ShOwn wr w.heap.size wr.heap.size v (Ev.allS z y m k most i ++ Ev.rowS y k most (z i) j) ∧ Below w.heap.size w wr)
      case atStart => exact ⟨0, by omega, rfl, rfl, hSH.cast (by simp [Ev.rowS]), hB⟩
      case round =>
        clear hSH hB hc1 hb1
        obtain ⟨j, hj, rfl, rfl, hSH, hB⟩ := hrel
        have hLR := Ev.rowS_length y k most (z i) j
        by_cases hlt2 : j < m
        · obtain ⟨b2', off2, rfl, hb2', hcell2⟩ := (HRB.out.keep hB) (by omega)
          have hc2 := hcell2 j hlt2
          have hyj := Ev.moments_bd HY.out j hlt2
          clear hcell2
          obtain ⟨L, hL⟩ : ∃ L, Ev.allS z y m k most i ++ Ev.rowS y k most (z i) j = L := ⟨_, rfl⟩
          have hLl : L.length ≤ 5101 := by rw [← hL, List.length_append]; omega
          rw [hL] at hSH
          have HL := Lib.hid hL; clear hL
          have hSH1 := hSH.keep (below_allocs (Below.refl _ wr) (.cells #[.int .i64 (y j - z i - k), .int .i64 (y j - z i + k)] 3))
          have hP2 := Blk.new wr #[.int .i64 (y j - z i - k), .int .i64 (y j - z i + k)] 3
          have hB1 := hB.alloc hB.size (.cells #[.int .i64 (y j - z i - k), .int .i64 (y j - z i + k)] 3)
          obtain ⟨s1, hs1⟩ : ∃ s, y j - z i - k = s := ⟨_, rfl⟩
          obtain ⟨s2, hs2⟩ : ∃ s, y j - z i + k = s := ⟨_, rfl⟩
          rw [hs1, hs2] at hP2 hB1 hSH1
          have hsb : -1000000000000 ≤ s1 ∧ s1 ≤ 1000000000000 ∧ -1000000000000 ≤ s2 ∧ s2 ≤ 1000000000000 := by omega
          have HS1 := Lib.hid hs1; have HS2 := Lib.hid hs2
          obtain ⟨wo, hwo⟩ : ∃ wo : World, wo = wr := ⟨_, rfl⟩
          clear hs1 hs2
          go_wp2_with fail
          rw [HS1.out, HS2.out]
          rw [← hwo] at hP2 hB1 hSH1 hB ⊢
          have hBo := hB.size
          have hSH2 := hSH1
          clear hB hSH hb2' hc2 hSH1
          clear hwo wr
          go_loopg [12, 54] 2 (fun gk v i' wr => Blk wr wo.heap.size #[.int .i64 s1, .int .i64 s2] 3 ∧ Below w.heap.size w wr ∧ ((gk = 2 ∧ i' = .int .i64 0 ∧ ShOwn wr w.heap.size wo.heap.size v L) ∨ (gk = 1 ∧ i' = .int .i64 1 ∧ ShOwn wr w.heap.size wo.heap.size v (L ++ Ev.keepS most s1)) ∨ (gk = 0 ∧ i' = .int .i64 2 ∧ ShOwn wr w.heap.size wo.heap.size v (L ++ Ev.keepS most s1 ++ Ev.keepS most s2))))
          case atStart => exact ⟨hP2, hB1, .inl ⟨rfl, rfl, hSH2⟩⟩
          case round =>
            clear hP2 hB1 hSH2
            obtain ⟨hP2, hB, hrel⟩ := hrel
            obtain ⟨c0, c1⟩ := hP2.two
            rcases hrel with ⟨rfl, rfl, hSH⟩ | ⟨rfl, rfl, hSH⟩ | ⟨rfl, rfl, hSH⟩
            · -- s1: the shift; L: the list now; .inr (.inl ⟨rfl, rfl, hSH'.cast (by rw [Ev.keepS_yes HV.out])⟩): the relation's choice where it is kept; .inr (.inl ⟨rfl, rfl, hSH.cast (by rw [Ev.keepS_no HV.out, List.append_nil])⟩): where not; 1: the ghost
              cases hv : Ev.inside most (s1)
              · have HV := Lib.hid hv
                have hno := Ev.inside_no hv; clear hv
                go_wp2_with (go_at_call 42; refine (outside_yes _ _ _ _ hno).mono ?_; rintro e w' ⟨rfl, rfl⟩)
                go_roundg 1
                case rel => exact ⟨hP2, hB, .inr (.inl ⟨rfl, rfl, hSH.cast (by rw [Ev.keepS_no HV.out, List.append_nil])⟩)⟩
                case measure => omega
              · have HV := Lib.hid hv
                have hyes := Ev.inside_yes hv; clear hv
                obtain ⟨g0, cap0, rfl, hown, hne0, hlt0⟩ := id hSH
                go_wp2_with (first | (go_at_call 42; refine (outside_no _ _ _ _ hyes.1 hyes.2).mono ?_; rintro e w' ⟨rfl, rfl⟩) | (at_builtin; refine wpList_append_own2 _ rfl _ _ 33 rfl w.heap.size 3 i0 (.int .i64 0) 1 8 Try.underlying33 HI0.out HI1.out HI2.out HI3.out rfl (by decide) _ _ _ rfl (hown.alloc _) ⟨wr.heap.size, 0, none⟩ 1 1 [.int .i64 (s1)] rfl (by decide) rfl (cell_one_new _ _ _) (by simp [Value.oneCell']) (by unfold maxLen; omega) (by omega) (by have := hB.size; simp; omega) ?_; intro g1 cap1 w1 hown1 hgrow1 hnew1))
                have hP2' := (hP2.alloc (.cells #[.int .i64 (s1)] 3)).beside hgrow1 hSH.block
                have hB' := hSH.below hgrow1 (hB.alloc hB.size (.cells #[.int .i64 (s1)] 3)) (by have := hB.size; simp; omega)
                have hSH' := hSH.more (by simp) hP2.lt hown1 hnew1
                go_roundg 1
                case rel => exact ⟨hP2', hB', .inr (.inl ⟨rfl, rfl, hSH'.cast (by rw [Ev.keepS_yes HV.out])⟩)⟩
                case measure => omega
            · have hl1 := Ev.keepS_length most s1
              obtain ⟨L2, hL2⟩ : ∃ L2, L ++ Ev.keepS most s1 = L2 := ⟨_, rfl⟩
              have hLl2 : L2.length ≤ 5102 := by rw [← hL2, List.length_append]; omega
              rw [hL2] at hSH
              have HL2 := Lib.hid hL2; clear hL2
              -- s2: the shift; L2: the list now; .inr (.inr ⟨rfl, rfl, hSH'.cast (by rw [HL2.out, Ev.keepS_yes HV.out])⟩): the relation's choice where it is kept; .inr (.inr ⟨rfl, rfl, hSH.cast (by rw [HL2.out, Ev.keepS_no HV.out, List.append_nil])⟩): where not; 0: the ghost
              cases hv : Ev.inside most (s2)
              · have HV := Lib.hid hv
                have hno := Ev.inside_no hv; clear hv
                go_wp2_with (go_at_call 42; refine (outside_yes _ _ _ _ hno).mono ?_; rintro e w' ⟨rfl, rfl⟩)
                go_roundg 0
                case rel => exact ⟨hP2, hB, .inr (.inr ⟨rfl, rfl, hSH.cast (by rw [HL2.out, Ev.keepS_no HV.out, List.append_nil])⟩)⟩
                case measure => omega
              · have HV := Lib.hid hv
                have hyes := Ev.inside_yes hv; clear hv
                obtain ⟨g0, cap0, rfl, hown, hne0, hlt0⟩ := id hSH
                go_wp2_with (first | (go_at_call 42; refine (outside_no _ _ _ _ hyes.1 hyes.2).mono ?_; rintro e w' ⟨rfl, rfl⟩) | (at_builtin; refine wpList_append_own2 _ rfl _ _ 33 rfl w.heap.size 3 i0 (.int .i64 0) 1 8 Try.underlying33 HI0.out HI1.out HI2.out HI3.out rfl (by decide) _ _ _ rfl (hown.alloc _) ⟨wr.heap.size, 0, none⟩ 1 1 [.int .i64 (s2)] rfl (by decide) rfl (cell_one_new _ _ _) (by simp [Value.oneCell']) (by unfold maxLen; omega) (by omega) (by have := hB.size; simp; omega) ?_; intro g1 cap1 w1 hown1 hgrow1 hnew1))
                have hP2' := (hP2.alloc (.cells #[.int .i64 (s2)] 3)).beside hgrow1 hSH.block
                have hB' := hSH.below hgrow1 (hB.alloc hB.size (.cells #[.int .i64 (s2)] 3)) (by have := hB.size; simp; omega)
                have hSH' := hSH.more (by simp) hP2.lt hown1 hnew1
                go_roundg 0
                case rel => exact ⟨hP2', hB', .inr (.inr ⟨rfl, rfl, hSH'.cast (by rw [HL2.out, Ev.keepS_yes HV.out])⟩)⟩
                case measure => omega
            · go_wp2_with fail
              go_roundg (m - (j + 1))
              case rel => exact ⟨j + 1, by omega, rfl, by go_num, (hSH.cast (by rw [← HL.out, Ev.rowS, Ev.two, HS1.out, HS2.out]; simp only [List.append_assoc])).other _ (Nat.le_refl _), hB⟩
              case measure => omega
        · obtain rfl : j = m := by omega
          go_wp2_with fail
          go_roundg (n - (i + 1))
          case rel => exact ⟨i + 1, by omega, rfl, by go_num, hSH, hB⟩
          case measure => omega
    · obtain rfl : i = n := by omega
      obtain ⟨g, cap, rfl, hrow⟩ := hSH.row
      have HBN := Lib.hid (Ev.bestN_all z y i m k most i)
      have HGB : Hid (∀ j, -1000000000000 ≤ (Ev.allS z y m k most i).getD j 0 ∧ (Ev.allS z y m k most i).getD j 0 ≤ 1000000000000) := fun j => by have := Ev.allS_getD (z := z) (y := y) (m := m) (k := k) hmb.1 i j; omega
      have HROW := Lib.hid hrow
      clear hrow hSH
      go_wp2_with (go_at_call 54; refine (HBS.out _ (HRA.out.keep hB) (HRB.out.keep hB) _ _ _ _ HROW.out (by omega) HGB.out).mono ?_; rintro e w2 ⟨rfl, hB2⟩)
      go_ret3
      exact ⟨by rw [← HBN.out]; rfl, below_up hB hB2⟩
theorem align_err (a : Option Addr) (n ca : Nat) (z : Nat → Int) (a2 : Option Addr) (m cb : Nat) (y : Nat → Int) (k : Int) (w : World) (hra : Row w a n (fun i => .int .i64 (z i))) (hrb : Row w a2 m (fun i => .int .i64 (y i))) (most : Int) (hn : n ≤ 9223372036854775807) (hm : m ≤ 9223372036854775807) (q : Int) (he : Ev.err z y n m k = q) (hq : q ≠ 0) :
    Calls Try.prog 17 #[.slice a n ca, .slice a2 m cb, .int .i64 k, .int .i64 most] w fun e w' => e = .returned (.tuple #[.int .i64 0, .int .i64 0, .int .i64 q]) ∧ Below w.heap.size w w' := by
  have HE := Lib.hid (fun W hA hB => checkEvents_is a n ca z a2 m cb y k W hA hB hn hm)
  rw [he] at HE
  have hq' : (q == 0) = false := by simpa using hq
  have HRA := Lib.hid hra; have HRB := Lib.hid hrb
  clear he hra hrb hq
  go_enter Try.func17, Try.ntmps17
  go_wp2_with (go_at_call 47; refine (HE.out _ HRA.out HRB.out).mono ?_; rintro e w' ⟨rfl, hB⟩)
  go_ret3
  exact ⟨rfl, hB⟩
theorem align_most (a : Option Addr) (n ca : Nat) (z : Nat → Int) (a2 : Option Addr) (m cb : Nat) (y : Nat → Int) (k : Int) (w : World) (hra : Row w a n (fun i => .int .i64 (z i))) (hrb : Row w a2 m (fun i => .int .i64 (y i))) (most : Int) (he : Ev.err z y n m k = 0) (hmo : Ev.mom most = false) :
    Calls Try.prog 17 #[.slice a n ca, .slice a2 m cb, .int .i64 k, .int .i64 most] w fun e w' => e = .returned (.tuple #[.int .i64 0, .int .i64 0, .int .i64 2]) ∧ Below w.heap.size w w' := by
  obtain ⟨hn, hm, _, _, _, _⟩ := Ev.err_zero he
  have HE := Lib.hid (fun W hA hB => checkEvents_is a n ca z a2 m cb y k W hA hB (by omega) (by omega))
  rw [he] at HE
  have HRA := Lib.hid hra; have HRB := Lib.hid hrb; have HMO := Lib.hid hmo
  clear he hra hrb hmo
  go_enter Try.func17, Try.ntmps17
  go_wp2_with (first | (go_at_call 47; refine (HE.out _ HRA.out HRB.out).mono ?_; rintro e w1 ⟨rfl, hB⟩) | (go_at_call 53; refine (isMoment_is _ false HMO.out _).mono ?_; rintro e w2 ⟨rfl, rfl⟩))
  go_ret3
  exact ⟨rfl, hB⟩
end Go.Proofs.Ytdhfhcpgjokhlaa
