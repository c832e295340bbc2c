/- NewTree, Add, Remove, Size. -/
import Derived.Test.YtbbedepojogfmaaTreeMath
import Derived.Test.YtbbedepojogfmaaGrpMem
namespace Go.Proofs.Ytbbedepojogfmaa
open Go.RowKit Go.Sort Go.Shelf Go.Maps
set_option linter.unusedVariables false
theorem lawInt : Keyed Try.prog 3 := int_keyed Try.underlying3
theorem zeroU (w : World) : (zeroValue 49).run Try.prog w = .ok (.int .u64 0) w := by kernel_rfl
/-- A tree in memory: its map's entries. -/
structure TreeW (w : World) (p B n : Nat) (I Hs : List Int) : Prop where
  blk : Blk w p #[.map (some B)] 112
  map : ∃ D, w.ownsMap Try.prog 3 (plainElem Try.prog 49) B n D ∧ Tr D I Hs
theorem TreeW.keep {w w' : World} {p B n : Nat} {I Hs : List Int} (h : TreeW w p B n I Hs) {row : Option Nat} (hg : w.grownBy w' row) (h1 : some p ≠ row) (h2 : some B ≠ row) : TreeW w' p B n I Hs := by
  obtain ⟨D, hD, hT⟩ := h.map
  exact ⟨h.blk.grown hg h1, D, hD.kept hg h2, hT⟩
theorem TreeW.ne {w : World} {p B n : Nat} {I Hs : List Int} (h : TreeW w p B n I Hs) : p ≠ B := by
  intro e
  obtain ⟨D, ⟨es, clock, hb, _⟩, _⟩ := h.map
  have := h.blk
  unfold Blk at this
  rw [e, hb] at this
  cases this
theorem keyI (x : Int) (h : 1 ≤ x ∧ x ≤ 1000000) : keyOf Try.prog 3 (.int .i64 x) = some (.int .i64 x) := keyOf_int_mk Try.underlying3 (WalkArith.wf_i64 (by omega))
set_option maxHeartbeats 1000000 in
theorem newTree_is (w : World) : Calls Try.prog 34 #[] w fun e w' => e = .returned (.pointer (some ⟨w.heap.size + 1, 0, none⟩)) ∧ TreeW w' (w.heap.size + 1) w.heap.size 0 [] [] ∧ Below w.heap.size w w' := by
  have hmm := @run_makeMap Try.prog
  go_enter Try.func34, Try.ntmps34
  go_wp2_with fail
  go_ret
  refine ⟨rfl, ⟨?_, .map [], (World.ownsMap_made _ _ _ _).alloc _, Tr.nil⟩, below_allocs (below_allocs (Below.refl _ _) _) _⟩
  have := Blk.new (w.alloc (.map #[] 0)) #[.map (some w.heap.size)] 112
  simpa using this
theorem addF_range (w : World) (p B n : Nat) (I Hs : List Int) (hT : TreeW w p B n I Hs) (x h : Int) (hx : x < 1 ∨ 1000000 < x) : Calls Try.prog 36 #[.pointer (some ⟨p, 0, none⟩), .int .i64 x, .int .u64 h] w fun e w' => e = .returned (.int .i64 2) ∧ w = w' := by
  have HX := Lib.hid hx; clear hx
  go_enter Try.func36, Try.ntmps36
  go_wp2_with (go_at_call 76; refine (outsideX_yes _ _ _ _ HX.out).mono ?_; rintro e w' ⟨rfl, rfl⟩)
  go_ret
  exact ⟨rfl, rfl⟩
set_option maxHeartbeats 2000000 in
theorem addF_twice (w : World) (p B n : Nat) (I Hs : List Int) (hT : TreeW w p B n I Hs) (x h : Int) (hx : 1 ≤ x ∧ x ≤ 1000000) (hm : x ∈ I) : Calls Try.prog 36 #[.pointer (some ⟨p, 0, none⟩), .int .i64 x, .int .u64 h] w fun e w' => e = .returned (.int .i64 6) ∧ w = w' := by
  have HKEY := Lib.hid (keyI x hx)
  obtain ⟨hx1, hx2⟩ := hx
  obtain ⟨D, hown, hTr⟩ := hT.map
  have q0 := hT.blk.one
  have HTR := Lib.hid hTr
  clear hTr
  have HHAS : Hid (Maps.has D (.int .i64 x) = true) := Lib.hid (by rw [HTR.out.has]; exact decide_eq_true hm)
  clear hm
  go_enter Try.func36, Try.ntmps36
  go_wp2_with (first | (go_at_call 76; refine (outsideX_no _ _ _ _ hx1 hx2).mono ?_; rintro e w' ⟨rfl, rfl⟩) | (at_lookup; refine wpList_lookup_own_ok_int _ rfl _ _ 110 rfl 3 49 .u64 lawInt Try.underlying110 Try.underlying49 (zeroU _) B n D rfl hown _ _ rfl HKEY.out ?_; intro c hat hwc; rw [HHAS.out]))
  go_ret
  exact ⟨rfl, rfl⟩
set_option maxRecDepth 100000 in
set_option maxHeartbeats 1000000 in
theorem addF_ok (w : World) (p B n : Nat) (I Hs : List Int) (hT : TreeW w p B n I Hs) (x h : Int) (hx : 1 ≤ x ∧ x ≤ 1000000) (hm : x ∉ I) (hl : I.length < 1000) (hn : n < 1000000) (hh : (Lit.int .u64 h).wf = true) (hbh : 0 ≤ h ∧ h < 18446744073709551616) : Calls Try.prog 36 #[.pointer (some ⟨p, 0, none⟩), .int .i64 x, .int .u64 h] w fun e w' => e = .returned (.int .i64 0) ∧ TreeW w' p B (n + 1) (I ++ [x]) (Hs ++ [h]) ∧ w.grownBy w' (some B) := by
  have HKEY := Lib.hid (keyI x hx)
  have HX := Lib.hid hx
  obtain ⟨hx1, hx2⟩ := hx
  have hne := hT.ne
  have HBK := Lib.hid hT.blk
  obtain ⟨D, hown, hTr⟩ := hT.map
  have q0 := hT.blk.one
  have HTR := Lib.hid hTr
  clear hTr
  have HHAS : Hid (Maps.has D (.int .i64 x) = false) := Lib.hid (by rw [HTR.out.has]; exact decide_eq_false hm)
  have HADD := Lib.hid (HTR.out.add (hown.tidy lawInt) h hm HX.out hbh)
  have hsz : ¬ (1000 : Int) ≤ ((Maps.size D : Nat) : Int) := by rw [HTR.out.size]; omega
  have HOWN := Lib.hid hown
  have hnm : n < maxLen := by unfold maxLen; omega
  clear hm
  go_enter Try.func36, Try.ntmps36
  go_wp2_with (first
    | (go_at_call 76; refine (outsideX_no _ _ _ _ hx1 hx2).mono ?_; rintro e w' ⟨rfl, rfl⟩)
    | (at_lookup; refine wpList_lookup_own_ok_int _ rfl _ _ 110 rfl 3 49 .u64 lawInt Try.underlying110 Try.underlying49 (zeroU _) B n D rfl hown _ _ rfl HKEY.out ?_; intro c hat hwc; rw [HHAS.out])
    | (at_len; refine wpList_len_own _ rfl _ 110 rfl 3 49 Try.underlying110 _ B n D rfl hown ?_)
    | (at_mapUpdate; refine wpList_mapUpdate_own _ rfl _ _ _ 110 rfl 3 49 lawInt Try.underlying110 _ B n D rfl HOWN.out hnm _ _ _ rfl rfl HKEY.out _ [] (plainElem_int Try.underlying49 hh) ?_; intro w1 hown1 hgrow1))
  go_ret
  exact ⟨rfl, ⟨HBK.out.grown hgrow1 (by simp [hne]), _, hown1, HADD.out⟩, hgrow1⟩
set_option maxHeartbeats 2000000 in
theorem removeF_none (w : World) (p B n : Nat) (I Hs : List Int) (hT : TreeW w p B n I Hs) (x : Int) (hw : (Lit.int .i64 x).wf = true) (hm : x ∉ I) : Calls Try.prog 37 #[.pointer (some ⟨p, 0, none⟩), .int .i64 x] w fun e w' => e = .returned (.int .i64 7) ∧ w = w' := by
  have HKEY := Lib.hid (show keyOf Try.prog 3 (.int .i64 x) = some (.int .i64 x) from keyOf_int_mk Try.underlying3 hw)
  obtain ⟨D, hown, hTr⟩ := hT.map
  have q0 := hT.blk.one
  have HTR := Lib.hid hTr
  clear hTr
  have HHAS : Hid (Maps.has D (.int .i64 x) = false) := Lib.hid (by rw [HTR.out.has]; exact decide_eq_false hm)
  clear hm hw
  go_enter Try.func37, Try.ntmps37
  go_wp2_with (at_lookup; refine wpList_lookup_own_ok_int _ rfl _ _ 110 rfl 3 49 .u64 lawInt Try.underlying110 Try.underlying49 (zeroU _) B n D rfl hown _ _ rfl HKEY.out ?_; intro c hat hwc; rw [HHAS.out])
  go_ret
  exact ⟨rfl, rfl⟩
set_option maxRecDepth 100000 in
set_option maxHeartbeats 1000000 in
theorem removeF_ok (w : World) (p B n : Nat) (I Hs : List Int) (hT : TreeW w p B n I Hs) (x : Int) (k : Nat) (hk : I[k]? = some x) : Calls Try.prog 37 #[.pointer (some ⟨p, 0, none⟩), .int .i64 x] w fun e w' => e = .returned (.int .i64 0) ∧ TreeW w' p B n (I.eraseIdx k) (Hs.eraseIdx k) ∧ w.grownBy w' (some B) := by
  have hne := hT.ne
  have HBK := Lib.hid hT.blk
  obtain ⟨D, hown, hTr⟩ := hT.map
  have q0 := hT.blk.one
  have HTR := Lib.hid hTr
  clear hTr
  have hmem := List.mem_of_getElem? hk
  have HKEY := Lib.hid (keyI x (HTR.out.rng x hmem))
  have HHAS : Hid (Maps.has D (.int .i64 x) = true) := Lib.hid (by rw [HTR.out.has]; exact decide_eq_true hmem)
  have HDEL := Lib.hid (HTR.out.del (hown.tidy lawInt) k hk)
  have HOWN := Lib.hid hown
  clear hk hmem
  go_enter Try.func37, Try.ntmps37
  go_wp2_with (first
    | (at_lookup; refine wpList_lookup_own_ok_int _ rfl _ _ 110 rfl 3 49 .u64 lawInt Try.underlying110 Try.underlying49 (zeroU _) B n D rfl hown _ _ rfl HKEY.out ?_; intro c hat hwc; rw [HHAS.out])
    | (at_delete; refine wpList_delete_own _ rfl _ _ 110 3 rfl 49 lawInt Try.underlying110 _ B n D rfl HOWN.out _ _ rfl HKEY.out ?_; intro w1 hown1 hturn1))
  go_ret
  have hgrow1 := hturn1.grown
  exact ⟨rfl, ⟨HBK.out.grown hgrow1 (by simp [hne]), _, hown1, HDEL.out⟩, hgrow1⟩
set_option maxHeartbeats 1000000 in
theorem sizeF_is (w : World) (p B n : Nat) (I Hs : List Int) (hT : TreeW w p B n I Hs) : Calls Try.prog 43 #[.pointer (some ⟨p, 0, none⟩)] w fun e w' => e = .returned (.int .i64 (I.length : Nat)) ∧ w = w' := by
  obtain ⟨D, hown, hTr⟩ := hT.map
  have q0 := hT.blk.one
  have HTR := Lib.hid hTr
  clear hTr
  have HSZ := Lib.hid HTR.out.size
  go_enter Try.func43, Try.ntmps43
  go_wp2_with (at_len; refine wpList_len_own _ rfl _ 110 rfl 3 49 Try.underlying110 _ B n D rfl hown ?_; rw [HSZ.out])
  go_ret
  exact ⟨rfl, rfl⟩
end Go.Proofs.Ytbbedepojogfmaa
