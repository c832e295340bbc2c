/- Parts of the proof, no condition: StRrG, StRef2, StRef3. -/
import Derived.Test.YtbbgebpgpadclaaGreatDoorSr12
import Derived.Test.YtbbgebpgpadclaaGreatDoorSr9
import Derived.Test.YtbbgebpgpadclaaGreatDoorSr4
import Derived.Lib.QuietBelow
import Derived.Maps.RangeWalk
set_option maxRecDepth 100000
set_option maxHeartbeats 16000000
set_option linter.unusedSimpArgs false
set_option linter.unusedVariables false
namespace Go.Proofs.YtbbgebpgpadclaaGreatDoor
open Go.RowKit Go.Sort Go.Shelf Go.Maps
theorem St.entH_len {R : List (List UInt8)} (h1 : ¬ R.length = 1) : St.ent (St.kH :: R) = none := by
 show St.entH R = none
 match R, h1 with
 | [], _ => rfl
 | [_], h => exact absurd rfl h
 | _ :: _ :: _, _ => rfl
theorem St.entB_len {R : List (List UInt8)} (h2 : ¬ R.length = 2) : St.ent (St.kB :: R) = none := by
 show St.entB R = none
 match R, h2 with
 | [], _ => rfl
 | [_], _ => rfl
 | [_, _], h => exact absurd rfl h
 | _ :: _ :: _ :: _, _ => rfl
theorem line_held (l : List UInt8) (R : List (List UInt8)) (s : Sto) (b : StA) (sb : Nat) (w : World) (hm : Mx w) (hS : StIO w sb s b) (hl : l.length ≤ 999999) (hk : Pr.spl 32 l = St.kH :: R) (hne : [] ∉ St.kH :: R) (hct : s.tiers.length ≤ 900000 ∧ s.files.length ≤ 900000 ∧ s.copies.length ≤ 900000 ∧ s.held.length ≤ 900000 ∧ s.bin.length ≤ 900000) : Calls Tryz.prog 19 #[.pointer (some ⟨sb, 0, none⟩), .string (Tx.mk l)] w (LinePost w sb s b (St.kH :: R)) := by
 have HNE := Lib.hid hne
 have HCT := Lib.hid hct
 obtain ⟨L, hL⟩ : ∃ L, St.kH :: R = L := ⟨_, rfl⟩
 have HLE := Lib.hid hL
 rw [hL] at hk HNE ⊢
 clear hne hct hL
 have hlL : ∀ x ∈ L, x.length ≤ 1000000000000 := fun x hx => by
  have := Pr.spl_mem_le 32 l x (by rw [hk]; exact hx)
  omega
 have hLn : L.length ≤ 1000000 := by have := Pr.spl_len_le 32 l; rw [hk] at this; omega
 have hLp : 0 < L.length := by rw [← hk]; exact List.length_pos_iff.2 (Pr.spl_ne 32 l)
 have HSP := Lib.hid (split_is l 32 (by omega) w hm)
 rw [hk] at HSP
 obtain ⟨n, hn⟩ : ∃ n, L.length = n := ⟨_, rfl⟩
 have HNL := Lib.hid hn
 have HCN : Hid (∀ V sa, RowE St.eS V sa (L.map Tx.mk) → Calls Tryz.prog 55 #[.slice sa n n, .string ⟨#[]⟩] V fun e w' => e = .returned (.bool (decide ([] ∈ L))) ∧ V = w') := Lib.hid fun V sa hr => by
  have := containsW_is [] L sa n V hr hLn
  rwa [hn] at this
 rw [hn] at HSP hLn hLp
 have HFW := Lib.hid (fun x (hx : x ∈ L) V => few13_any x (hlL x hx) V)
 have HIO := Lib.hid hS
 have HK := Lib.hid hk
 have HLL := Lib.hid hlL
 clear hlL hk hS hn
 go_enter Tryz.func19, Tryz.ntmps19
 go_upto_region 2 with (go_at_call 12; (with_reducible refine HSP.out.mono ?_); rintro e w1 ⟨rfl, hrow, hB1, hz1⟩)
 have HROW := Lib.hid hrow; have HB1 := Lib.hid hB1; have HZ1 := Lib.hid hz1
 clear hrow hB1 hz1 HSP
 rw [decide_eq_false HNE.out] at HCN
 go_upto_region 4 with (go_at_call 55; (with_reducible refine (HCN.out w1 _ HROW.out.rowE).mono ?_); rintro e w2 ⟨rfl, rfl⟩)
 clear HCN
 go_wp2_with fail
 go_loopg [6, 7, 19] n (fun gk v6 v7 i wr => ∃ (j : Nat) (ns : List Int), j ≤ n ∧ gk = n - j ∧ i = .int .i64 j ∧ ns.length = j ∧ (∀ i x (v : Nat), i < j → L[i]? = some x → St.num13 x = some v → ns[i]? = some (v : Int)) ∧ wr.ownsRow w1.heap.size 3 1 v6 j (ns.map (.int .i64)) ∧ wr.ownsRow w1.heap.size 4 1 v7 j ((L.take j).map (fun x => .bool (St.num13 x).isSome)) ∧ Below w1.heap.size w1 wr)
 case atStart => exact ⟨0, [], by omega, rfl, rfl, rfl, fun i x v h => by omega, ⟨rfl, .inl ⟨rfl, rfl⟩⟩, ⟨rfl, .inl ⟨rfl, rfl⟩⟩, Below.refl _ _⟩
 case round =>
  obtain ⟨j, ns, hj, rfl, rfl, hnl, hnv, ho6, ho7, hB⟩ := hrel
  have HNV := Lib.hid hnv; have HNN := Lib.hid hnl
  clear hnv hnl
  by_cases hlt : j < n
  ·obtain ⟨x, hx⟩ : ∃ x, L[j]? = some x := ⟨_, List.getElem?_eq_getElem (by rw [HNL.out]; exact hlt)⟩
   have c0 : wr.cell? ⟨w.heap.size, j, none⟩ = some (.string (Tx.mk x)) := by
    have := (HROW.out.keep hB).2 j (by rw [HNL.out]; exact hlt)
    rw [List.getD_eq_getElem?_getD, hx] at this
    exact this
   have hj0 : (0 : Int) ≤ (j : Int) := by omega
   have hj1 : (j : Int) < (n : Int) := by omega
   have HX := Lib.hid hx
   have HF := Lib.hid (HFW.out x (List.mem_of_getElem? hx))
   have HO6 := Lib.hid ho6; have HO7 := Lib.hid ho7; have HB := Lib.hid hB
   obtain ⟨N6, hN6⟩ : ∃ N6, ns.map (Value.int .i64) = N6 := ⟨_, rfl⟩
   obtain ⟨N7, hN7⟩ : ∃ N7, (L.take j).map (fun x => Value.bool (St.num13 x).isSome) = N7 := ⟨_, rfl⟩
   have H6 := Lib.hid hN6; have H7 := Lib.hid hN7
   rw [hN6] at HO6
   rw [hN7] at HO7
   obtain ⟨ok, hok⟩ : ∃ ok, (St.num13 x).isSome = ok := ⟨_, rfl⟩
   rw [hok] at HF
   have HOK := Lib.hid hok
   clear hx ho6 ho7 hB hN6 hN7 hok
   go_wp2_with (first
    | (go_at_call 56; (with_reducible refine (HF.out wr).mono ?_); rintro e w3 ⟨v, rfl, hv, hB3⟩; have h6 := own_keepE HO6.out hB3; have h7 := own_keepE HO7.out hB3; have hBw := below_up HB.out hB3; have hsw := hBw.size)
    | (at_builtin; (refine list_appI rfl _ _ rfl _ _ j N6 (by rfl) (by rfl) h6 (by omega) (by omega) (by rfl) (by simp [Value.oneCell']) ?_; intro g8 cap8 w8 hown8 hgrow8; have hB8 := below_grownE (below_allocs hBw _) (h6.alloc _) hgrow8 (by simp; omega); have h78 := (own_keepE h7 ((Below.refl _ _).alloc (Nat.le_refl _) _)).kept hgrow8 (rp_apart h6 h7 (by decide)); have hs8 := hB8.size))
    | (at_builtin; refine list_appB rfl _ _ rfl _ _ j N7 (by rfl) (by rfl) h78 (by omega) (by omega) (by rfl) (by simp [Value.oneCell']) ?_; intro g9 cap9 w9 hown9 hgrow9))
   go_roundg (n - (j + 1))
   case rel =>
    refine ⟨j + 1, ns ++ [v], by omega, rfl, by go_num, by simp [HNN.out], ?_, ?_, ?_, ?_⟩
    ·intro i y u hi hy hu
     rcases Nat.lt_or_ge i j with h | h
     ·rw [List.getElem?_append_left (by rw [HNN.out]; exact h)]; exact HNV.out i y u h hy hu
     ·obtain rfl : i = j := by omega
      rw [HX.out] at hy; cases hy
      rw [List.getElem?_append_right (by rw [HNN.out]; exact Nat.le_refl _), HNN.out, Nat.sub_self, hv u hu]; rfl
    ·have e6 : (ns ++ [v]).map (Value.int .i64) = N6 ++ [.int .i64 v] := by rw [List.map_append, H6.out]; rfl
     rw [e6]
     exact (own_keepE hown8 ((Below.refl _ _).alloc (Nat.le_refl _) _)).kept hgrow9 (rp_apart h78 hown8 (by decide))
    ·have e7 : (L.take (j + 1)).map (fun x => Value.bool (St.num13 x).isSome) = N7 ++ [.bool ok] := by
      rw [List.take_add_one, HX.out, List.map_append, H7.out]; simp [HOK.out]
     rw [e7]
     exact hown9
    ·exact below_grownE (below_allocs hB8 _) (h78.alloc _) hgrow9 (by simp; omega)
   case measure => omega
  ·obtain rfl : n = j := by omega
   have hlt0 : 0 < n := hLp
   obtain ⟨g6, cap6, rfl, hc6⟩ : ∃ g cap, u6 = .slice (some ⟨g, 0, none⟩) n cap ∧ OwnC wr w1.heap.size 3 1 g n cap (ns.map (Value.int .i64)) := by
    rcases OwnV.of_own ho6 with ⟨_, h0, _⟩ | h
    ·omega
    ·exact h
   obtain ⟨g7, cap7, rfl, hc7⟩ : ∃ g cap, u7 = .slice (some ⟨g, 0, none⟩) n cap ∧ OwnC wr w1.heap.size 4 1 g n cap ((L.take n).map (fun x => Value.bool (St.num13 x).isSome)) := by
    rcases OwnV.of_own ho7 with ⟨_, h0, _⟩ | h
    ·omega
    ·exact h
   have HLS : Hid (LnSt w wr sb s b L g6 g7) := Lib.hid
    ⟨fun i x hx => by
      have hi := (List.getElem?_eq_some_iff.1 hx).1
      have := (HROW.out.keep hB).2 i hi
      rw [List.getD_eq_getElem?_getD, hx] at this
      exact this,
     fun i x v hx hv => by
      have hi := (List.getElem?_eq_some_iff.1 hx).1
      rw [HNL.out] at hi
      rw [ho6.cellAt i (by omega), List.getElem?_map, HNV.out i x v hi hx hv]; rfl,
     fun i x hx => by
      have hi := (List.getElem?_eq_some_iff.1 hx).1
      have ht : L.take n = L := List.take_of_length_le (by rw [HNL.out]; exact Nat.le_refl _)
      rw [ht] at ho7
      rw [ho7.cellAt i (by have := HNL.out; omega), List.getElem?_map, hx]; rfl,
     HIO.out.keep (below_up HB1.out hB), below_up HB1.out hB, fun q hq => HIO.out.noB hq, ⟨by have := (ho6.lt g6 rfl).1; have := HB1.out.size; omega, (Array.getElem?_eq_some_iff.1 HIO.out.blk).1⟩⟩
   have hnn := HNL.out
   clear ho6 ho7 hc6 hc7 hB HNV HNN HFW HROW HB1 HZ1 HIO HLL
   have c0 : wr.cell? ⟨w.heap.size, 0, none⟩ = some (.string ⟨#[104, 101, 108, 100]⟩) := HLS.out.cw 0 St.kH (by rw [← HLE.out]; rfl)
   have hnR : n = R.length + 1 := by rw [← hnn, ← HLE.out]; rfl
   by_cases hR : R.length = 1
   ·obtain ⟨x, rfl⟩ : ∃ x, R = [x] := by
     match R, hR with
     | [x], _ => exact ⟨x, rfl⟩
    obtain rfl : n = 2 := by simp at hnR; exact hnR
    have hxe := HNE.out
    simp only [List.mem_cons, List.not_mem_nil, or_false, not_or, ← HLE.out] at hxe
    have HXE := Lib.hid hxe
    clear hR hnR hnn hxe
    have CE : Hid (St.ent L = St.entH [x]) := Lib.hid (by rw [← HLE.out]; rfl)
    have c1 := HLS.out.cw 1 x (by rw [← HLE.out]; rfl)
    go_upto_region 31 with fail
    have hv : Below wr.heap.size wr wr.drew := (Below.refl _ _).drew
    have hHeld : (fun V : World => V.cell? ⟨sb, 5, none⟩ = some (.slice b.ha s.held.length b.hc) ∧ V.cell? ⟨w.heap.size, 1, none⟩ = some (.string (Tx.mk x))) wr.drew := ⟨(HLS.out.io.keep hv).blk.seven.2.2.2.2.2.1, cell_below hv c1⟩
    refine wp_region_until (fun V => V.cell? ⟨sb, 5, none⟩ = some (.slice b.ha s.held.length b.hc) ∧ V.cell? ⟨w.heap.size, 1, none⟩ = some (.string (Tx.mk x))) 12 (by kernel_rfl) ?_
    refine anyM_take0 (i := 0) (v := ?_) rfl (by decide) (by kernel_rfl) (by kernel_rfl) (by kernel_rfl) (fun _ _ _ h => h) (Or.inl ⟨by rfl, ?_⟩) (fun _ => by assumption) ?_
    rotate_left
    ·(intro w hSw; go_simp; try (with_reducible rfl))
    try go_frame
    refine anyM_take0 (i := 1) (v := ?_) rfl (by decide) (by kernel_rfl) (by kernel_rfl) (by kernel_rfl) (fun _ _ _ h => h) (Or.inl ⟨by rfl, ?_⟩) (fun _ => by assumption) ?_
    rotate_left
    ·(intro w hSw; go_simp; try (with_reducible rfl))
    try go_frame
    refine anyM_take0 (i := 2) (v := ?_) rfl (by decide) (by kernel_rfl) (by kernel_rfl) (by kernel_rfl) (fun _ _ _ h => h) (Or.inl ⟨by rfl, ?_⟩) (fun _ => by assumption) ?_
    rotate_left
    ·(intro w hSw; go_simp; try (with_reducible rfl))
    try go_frame
    refine anyM_take0 (i := 3) (v := ?_) rfl (by decide) (by kernel_rfl) (by kernel_rfl) (by kernel_rfl) (fun _ _ _ h => h) (Or.inl ⟨by rfl, ?_⟩) (fun _ => by assumption) ?_
    rotate_left
    ·(intro w hSw; go_simp; try (with_reducible rfl))
    try go_frame
    refine anyM_take (i := 4) (v := ?_) rfl rfl (by kernel_rfl) (by decide) (by kernel_rfl) (by kernel_rfl) (by kernel_rfl) (fun _ _ _ h => h) (Or.inl ⟨by rfl, ?_⟩) (by rfl) (by assumption) ?_
    rotate_left
    ·(intro w hSw; (try dsimp only at hSw); obtain ⟨hs0, hs1⟩ := hSw; go_simp; try (with_reducible rfl))
    try go_frame
    refine anyM_take0 (i := 5) (v := ?_) rfl (by decide) (by kernel_rfl) (by kernel_rfl) (by kernel_rfl) (fun _ _ _ h => h) (Or.inl ⟨by rfl, ?_⟩) (fun _ => by assumption) ?_
    rotate_left
    ·(intro w hSw; go_simp; try (with_reducible rfl))
    try go_frame
    refine anyM_take0 (i := 6) (v := ?_) rfl (by decide) (by kernel_rfl) (by kernel_rfl) (by kernel_rfl) (fun _ _ _ h => h) (Or.inl ⟨by rfl, ?_⟩) (fun _ => by assumption) ?_
    rotate_left
    ·(intro w hSw; go_simp; try (with_reducible rfl))
    try go_frame
    refine anyM_take (i := 7) (v := ?_) rfl rfl (by kernel_rfl) (by decide) (by kernel_rfl) (by kernel_rfl) (by kernel_rfl) (fun _ _ _ h => h) (Or.inl ⟨by rfl, ?_⟩) (by rfl) (by assumption) ?_
    rotate_left
    ·(intro w hSw; (try dsimp only at hSw); obtain ⟨hs0, hs1⟩ := hSw; go_simp; try (with_reducible rfl))
    try go_frame
    have hal : Below wr.heap.size wr (wr.drew.alloc (.cells #[.string (Tx.mk x)] 9)) := ((Below.refl _ _).drew).alloc (Nat.le_refl _) _
    have HLA := Lib.hid (HLS.out.keep hal)
    have hSA := HLA.out.io
    have hHA := (show (fun V : World => V.cell? ⟨sb, 5, none⟩ = some (.slice b.ha s.held.length b.hc) ∧ V.cell? ⟨w.heap.size, 1, none⟩ = some (.string (Tx.mk x))) _ from ⟨HLA.out.io.blk.seven.2.2.2.2.2.1, cell_below hal c1⟩)
    refine anyM_ready (rs := [8]) (by kernel_rfl) (by simp) ?_
    refine ReadyM.cons rfl (fun K' hK => ?_) ReadyM.nil
    go_simp
    refine hK.out _ _ (fun _ => hHA) ?_
    clear hK K'
    try go_frame
    refine anyM_ready (rs := [9]) (by kernel_rfl) (by simp) ?_
    refine ReadyM.cons rfl (fun K' hK => ?_) ReadyM.nil
    have hct := HCT.out
    refine step_appS9 rfl _ _ rfl (sb + 1) (.slice b.ha s.held.length b.hc) s.held.length (St.eS.flat s.held) (by rfl) (by rfl) (own_keepE HLS.out.io.he (Below.refl _ _).drew) (by omega) (by have := (Array.getElem?_eq_some_iff.1 HLS.out.io.blk).1; show sb + 1 ≤ wr.heap.size; omega) (by rfl) (by simp [Value.oneCell']) ?_
    intro g8 cap8 w8 hown8 hgrow8 hnew8
    have hfl : St.eS.flat s.held ++ (#[.string (Tx.mk x)] : Array Value).toList = St.eS.flat (s.held ++ [Tx.mk x]) := by rw [Enc.flat_snoc]; rfl
    obtain ⟨m1, m2, m3⟩ := hSA.moreS (t := Tx.mk x) hgrow8 hown8 hfl
    have hb8 : Blk w8 sb _ _ := hSA.blk.of_block (hgrow8.block sb (Array.getElem?_eq_some_iff.1 hSA.blk).1 (fun e => by have := (hSA.he.lt sb e.symm).1; omega))
    have hH8 := (show (fun V : World => V.cell? ⟨sb, 5, none⟩ = some (.slice b.ha s.held.length b.hc) ∧ V.cell? ⟨w.heap.size, 1, none⟩ = some (.string (Tx.mk x))) w8 from ⟨hb8.seven.2.2.2.2.2.1, cell_grown (cell_below hal c1) hgrow8 (HLS.out.nb w.heap.size (Nat.le_refl _)).2.2.2.2.1⟩)
    refine hK.out _ _ (fun _ => hH8) ?_
    clear hK K' hHeld
    try go_frame
    have hHeld := hH8
    refine anyM_take0 (i := 10) (v := ?_) rfl (by decide) (by kernel_rfl) (by kernel_rfl) (by kernel_rfl) (fun _ _ _ h => h) (Or.inl ⟨by rfl, ?_⟩) (fun _ => by assumption) ?_
    rotate_left
    ·(intro w hSw; go_simp; try (with_reducible rfl))
    try go_frame
    refine anyM_take0 (i := 11) (v := ?_) rfl (by decide) (by kernel_rfl) (by kernel_rfl) (by kernel_rfl) (fun _ _ _ h => h) (Or.inl ⟨by rfl, ?_⟩) (fun _ => by assumption) ?_
    rotate_left
    ·(intro w hSw; go_simp; try (with_reducible rfl))
    try go_frame
    clear hHeld hHA hH8
    obtain ⟨q0, q1, q2, q3, q4, q5, q6⟩ := hb8.seven
    have qf := hb8.free
    refine anyM_ready (rs := [12]) (by kernel_rfl) (by simp) ?_
    refine ReadyM.cons rfl (fun K hK => ?_) ReadyM.nil
    go_simp
    refine hK.out _ _ (fun h => absurd h (by simp)) ?_
    clear hK K
    try go_frame
    refine anyM_done (by kernel_rfl) ?_ _
    have HFR := Lib.hid (fr_H (sb := sb) (i := 5) (cap := cap8) (u := .slice (some ⟨g8, 0, none⟩) (s.held.length + 1) cap8) HLA.out.bw hgrow8 hnew8 (s.held ++ [Tx.mk x]))
    have HM1 := Lib.hid m1
    have HM2 := Lib.hid (HLA.out.down.trans m2)
    generalize w8.setCell ⟨sb, 5, none⟩ (.slice (some ⟨g8, 0, none⟩) (s.held.length + 1) cap8) = wz at *
    clear m1 m2 m3 hb8 hSA hal hown8 hgrow8 hnew8 hfl q0 q1 q2 q3 q4 q5 q6 qf hv hct
    go_wp2_with fail
    go_ret
    exact ⟨HM2.out, .inl ⟨.hld (Tx.mk x), _, by rw [CE.out]; unfold St.entH; simp [show ¬ x = [] from fun e => HXE.out.2 e.symm], rfl, HM1.out, HFR.out⟩⟩
   ·skip
    have g2 : ((n : Int) == 2) = false := by simp; omega
    have h2 : ¬ (n : Int) = 2 := by omega
    have HRL := Lib.hid hR
    clear hnR hnn hR
    go_wp2_with fail
    go_ret
    exact ⟨HLS.out.down, .inr ⟨by rw [← HLE.out]; exact St.entH_len HRL.out, rfl⟩⟩
theorem line_bin (l : List UInt8) (R : List (List UInt8)) (s : Sto) (b : StA) (sb : Nat) (w : World) (hm : Mx w) (hS : StIO w sb s b) (hl : l.length ≤ 999999) (hk : Pr.spl 32 l = St.kB :: R) (hne : [] ∉ St.kB :: R) (hct : s.tiers.length ≤ 900000 ∧ s.files.length ≤ 900000 ∧ s.copies.length ≤ 900000 ∧ s.held.length ≤ 900000 ∧ s.bin.length ≤ 900000) : Calls Tryz.prog 19 #[.pointer (some ⟨sb, 0, none⟩), .string (Tx.mk l)] w (LinePost w sb s b (St.kB :: R)) := by
 have HNE := Lib.hid hne
 have HCT := Lib.hid hct
 obtain ⟨L, hL⟩ : ∃ L, St.kB :: R = L := ⟨_, rfl⟩
 have HLE := Lib.hid hL
 rw [hL] at hk HNE ⊢
 clear hne hct hL
 have hlL : ∀ x ∈ L, x.length ≤ 1000000000000 := fun x hx => by
  have := Pr.spl_mem_le 32 l x (by rw [hk]; exact hx)
  omega
 have hLn : L.length ≤ 1000000 := by have := Pr.spl_len_le 32 l; rw [hk] at this; omega
 have hLp : 0 < L.length := by rw [← hk]; exact List.length_pos_iff.2 (Pr.spl_ne 32 l)
 have HSP := Lib.hid (split_is l 32 (by omega) w hm)
 rw [hk] at HSP
 obtain ⟨n, hn⟩ : ∃ n, L.length = n := ⟨_, rfl⟩
 have HNL := Lib.hid hn
 have HCN : Hid (∀ V sa, RowE St.eS V sa (L.map Tx.mk) → Calls Tryz.prog 55 #[.slice sa n n, .string ⟨#[]⟩] V fun e w' => e = .returned (.bool (decide ([] ∈ L))) ∧ V = w') := Lib.hid fun V sa hr => by
  have := containsW_is [] L sa n V hr hLn
  rwa [hn] at this
 rw [hn] at HSP hLn hLp
 have HFW := Lib.hid (fun x (hx : x ∈ L) V => few13_any x (hlL x hx) V)
 have HIO := Lib.hid hS
 have HK := Lib.hid hk
 have HLL := Lib.hid hlL
 clear hlL hk hS hn
 go_enter Tryz.func19, Tryz.ntmps19
 go_upto_region 2 with (go_at_call 12; (with_reducible refine HSP.out.mono ?_); rintro e w1 ⟨rfl, hrow, hB1, hz1⟩)
 have HROW := Lib.hid hrow; have HB1 := Lib.hid hB1; have HZ1 := Lib.hid hz1
 clear hrow hB1 hz1 HSP
 rw [decide_eq_false HNE.out] at HCN
 go_upto_region 4 with (go_at_call 55; (with_reducible refine (HCN.out w1 _ HROW.out.rowE).mono ?_); rintro e w2 ⟨rfl, rfl⟩)
 clear HCN
 go_wp2_with fail
 go_loopg [6, 7, 19] n (fun gk v6 v7 i wr => ∃ (j : Nat) (ns : List Int), j ≤ n ∧ gk = n - j ∧ i = .int .i64 j ∧ ns.length = j ∧ (∀ i x (v : Nat), i < j → L[i]? = some x → St.num13 x = some v → ns[i]? = some (v : Int)) ∧ wr.ownsRow w1.heap.size 3 1 v6 j (ns.map (.int .i64)) ∧ wr.ownsRow w1.heap.size 4 1 v7 j ((L.take j).map (fun x => .bool (St.num13 x).isSome)) ∧ Below w1.heap.size w1 wr)
 case atStart => exact ⟨0, [], by omega, rfl, rfl, rfl, fun i x v h => by omega, ⟨rfl, .inl ⟨rfl, rfl⟩⟩, ⟨rfl, .inl ⟨rfl, rfl⟩⟩, Below.refl _ _⟩
 case round =>
  obtain ⟨j, ns, hj, rfl, rfl, hnl, hnv, ho6, ho7, hB⟩ := hrel
  have HNV := Lib.hid hnv; have HNN := Lib.hid hnl
  clear hnv hnl
  by_cases hlt : j < n
  ·obtain ⟨x, hx⟩ : ∃ x, L[j]? = some x := ⟨_, List.getElem?_eq_getElem (by rw [HNL.out]; exact hlt)⟩
   have c0 : wr.cell? ⟨w.heap.size, j, none⟩ = some (.string (Tx.mk x)) := by
    have := (HROW.out.keep hB).2 j (by rw [HNL.out]; exact hlt)
    rw [List.getD_eq_getElem?_getD, hx] at this
    exact this
   have hj0 : (0 : Int) ≤ (j : Int) := by omega
   have hj1 : (j : Int) < (n : Int) := by omega
   have HX := Lib.hid hx
   have HF := Lib.hid (HFW.out x (List.mem_of_getElem? hx))
   have HO6 := Lib.hid ho6; have HO7 := Lib.hid ho7; have HB := Lib.hid hB
   obtain ⟨N6, hN6⟩ : ∃ N6, ns.map (Value.int .i64) = N6 := ⟨_, rfl⟩
   obtain ⟨N7, hN7⟩ : ∃ N7, (L.take j).map (fun x => Value.bool (St.num13 x).isSome) = N7 := ⟨_, rfl⟩
   have H6 := Lib.hid hN6; have H7 := Lib.hid hN7
   rw [hN6] at HO6
   rw [hN7] at HO7
   obtain ⟨ok, hok⟩ : ∃ ok, (St.num13 x).isSome = ok := ⟨_, rfl⟩
   rw [hok] at HF
   have HOK := Lib.hid hok
   clear hx ho6 ho7 hB hN6 hN7 hok
   go_wp2_with (first
    | (go_at_call 56; (with_reducible refine (HF.out wr).mono ?_); rintro e w3 ⟨v, rfl, hv, hB3⟩; have h6 := own_keepE HO6.out hB3; have h7 := own_keepE HO7.out hB3; have hBw := below_up HB.out hB3; have hsw := hBw.size)
    | (at_builtin; (refine list_appI rfl _ _ rfl _ _ j N6 (by rfl) (by rfl) h6 (by omega) (by omega) (by rfl) (by simp [Value.oneCell']) ?_; intro g8 cap8 w8 hown8 hgrow8; have hB8 := below_grownE (below_allocs hBw _) (h6.alloc _) hgrow8 (by simp; omega); have h78 := (own_keepE h7 ((Below.refl _ _).alloc (Nat.le_refl _) _)).kept hgrow8 (rp_apart h6 h7 (by decide)); have hs8 := hB8.size))
    | (at_builtin; refine list_appB rfl _ _ rfl _ _ j N7 (by rfl) (by rfl) h78 (by omega) (by omega) (by rfl) (by simp [Value.oneCell']) ?_; intro g9 cap9 w9 hown9 hgrow9))
   go_roundg (n - (j + 1))
   case rel =>
    refine ⟨j + 1, ns ++ [v], by omega, rfl, by go_num, by simp [HNN.out], ?_, ?_, ?_, ?_⟩
    ·intro i y u hi hy hu
     rcases Nat.lt_or_ge i j with h | h
     ·rw [List.getElem?_append_left (by rw [HNN.out]; exact h)]; exact HNV.out i y u h hy hu
     ·obtain rfl : i = j := by omega
      rw [HX.out] at hy; cases hy
      rw [List.getElem?_append_right (by rw [HNN.out]; exact Nat.le_refl _), HNN.out, Nat.sub_self, hv u hu]; rfl
    ·have e6 : (ns ++ [v]).map (Value.int .i64) = N6 ++ [.int .i64 v] := by rw [List.map_append, H6.out]; rfl
     rw [e6]
     exact (own_keepE hown8 ((Below.refl _ _).alloc (Nat.le_refl _) _)).kept hgrow9 (rp_apart h78 hown8 (by decide))
    ·have e7 : (L.take (j + 1)).map (fun x => Value.bool (St.num13 x).isSome) = N7 ++ [.bool ok] := by
      rw [List.take_add_one, HX.out, List.map_append, H7.out]; simp [HOK.out]
     rw [e7]
     exact hown9
    ·exact below_grownE (below_allocs hB8 _) (h78.alloc _) hgrow9 (by simp; omega)
   case measure => omega
  ·obtain rfl : n = j := by omega
   have hlt0 : 0 < n := hLp
   obtain ⟨g6, cap6, rfl, hc6⟩ : ∃ g cap, u6 = .slice (some ⟨g, 0, none⟩) n cap ∧ OwnC wr w1.heap.size 3 1 g n cap (ns.map (Value.int .i64)) := by
    rcases OwnV.of_own ho6 with ⟨_, h0, _⟩ | h
    ·omega
    ·exact h
   obtain ⟨g7, cap7, rfl, hc7⟩ : ∃ g cap, u7 = .slice (some ⟨g, 0, none⟩) n cap ∧ OwnC wr w1.heap.size 4 1 g n cap ((L.take n).map (fun x => Value.bool (St.num13 x).isSome)) := by
    rcases OwnV.of_own ho7 with ⟨_, h0, _⟩ | h
    ·omega
    ·exact h
   have HLS : Hid (LnSt w wr sb s b L g6 g7) := Lib.hid
    ⟨fun i x hx => by
      have hi := (List.getElem?_eq_some_iff.1 hx).1
      have := (HROW.out.keep hB).2 i hi
      rw [List.getD_eq_getElem?_getD, hx] at this
      exact this,
     fun i x v hx hv => by
      have hi := (List.getElem?_eq_some_iff.1 hx).1
      rw [HNL.out] at hi
      rw [ho6.cellAt i (by omega), List.getElem?_map, HNV.out i x v hi hx hv]; rfl,
     fun i x hx => by
      have hi := (List.getElem?_eq_some_iff.1 hx).1
      have ht : L.take n = L := List.take_of_length_le (by rw [HNL.out]; exact Nat.le_refl _)
      rw [ht] at ho7
      rw [ho7.cellAt i (by have := HNL.out; omega), List.getElem?_map, hx]; rfl,
     HIO.out.keep (below_up HB1.out hB), below_up HB1.out hB, fun q hq => HIO.out.noB hq, ⟨by have := (ho6.lt g6 rfl).1; have := HB1.out.size; omega, (Array.getElem?_eq_some_iff.1 HIO.out.blk).1⟩⟩
   have hnn := HNL.out
   clear ho6 ho7 hc6 hc7 hB HNV HNN HFW HROW HB1 HZ1 HIO HLL
   have c0 : wr.cell? ⟨w.heap.size, 0, none⟩ = some (.string ⟨#[98, 105, 110]⟩) := HLS.out.cw 0 St.kB (by rw [← HLE.out]; rfl)
   have hnR : n = R.length + 1 := by rw [← hnn, ← HLE.out]; rfl
   by_cases hR : R.length = 2
   ·obtain ⟨x, y, rfl⟩ : ∃ x y, R = [x, y] := by
     match R, hR with
     | [x, y], _ => exact ⟨x, y, rfl⟩
    obtain rfl : n = 3 := by simp at hnR; exact hnR
    have hxe := HNE.out
    simp only [List.mem_cons, List.not_mem_nil, or_false, not_or, ← HLE.out] at hxe
    have HXE := Lib.hid hxe
    clear hR hnR hnn hxe
    have CE : Hid (St.ent L = St.entB [x, y]) := Lib.hid (by rw [← HLE.out]; rfl)
    cases hy : St.num13 y with
    | none =>
      have Hy := Lib.hid hy
      clear hy
      have e2 : wr.cell? ⟨g7, 2, none⟩ = some (.bool false) := by have := HLS.out.cb 2 y (by rw [← HLE.out]; rfl); rwa [Hy.out] at this
      go_wp2_with fail
      go_ret
      exact ⟨HLS.out.down, .inr ⟨by rw [CE.out]; unfold St.entB; simp [Hy.out], rfl⟩⟩
    | some vy =>
      have Hy := Lib.hid hy
      clear hy
      have e2 : wr.cell? ⟨g7, 2, none⟩ = some (.bool true) := by have := HLS.out.cb 2 y (by rw [← HLE.out]; rfl); rwa [Hy.out] at this
      have i2 := HLS.out.ci 2 y vy (by rw [← HLE.out]; rfl) Hy.out
      have c1 := HLS.out.cw 1 x (by rw [← HLE.out]; rfl)
      go_upto_region 34 with fail
      have hv : Below wr.heap.size wr wr.drew := (Below.refl _ _).drew
      have hHeld : (fun V : World => V.cell? ⟨sb, 6, none⟩ = some (.slice b.ba s.bin.length b.bc) ∧ V.cell? ⟨w.heap.size, 1, none⟩ = some (.string (Tx.mk x)) ∧ V.cell? ⟨g6, 2, none⟩ = some (.int .i64 (vy : Int))) wr.drew := ⟨(HLS.out.io.keep hv).blk.seven.2.2.2.2.2.2, cell_below hv c1, cell_below hv i2⟩
      refine wp_region_until (fun V => V.cell? ⟨sb, 6, none⟩ = some (.slice b.ba s.bin.length b.bc) ∧ V.cell? ⟨w.heap.size, 1, none⟩ = some (.string (Tx.mk x)) ∧ V.cell? ⟨g6, 2, none⟩ = some (.int .i64 (vy : Int))) 16 (by kernel_rfl) ?_
      refine anyM_take0 (i := 0) (v := ?_) rfl (by decide) (by kernel_rfl) (by kernel_rfl) (by kernel_rfl) (fun _ _ _ h => h) (Or.inl ⟨by rfl, ?_⟩) (fun _ => by assumption) ?_
      rotate_left
      ·(intro w hSw; go_simp; try (with_reducible rfl))
      try go_frame
      refine anyM_take0 (i := 1) (v := ?_) rfl (by decide) (by kernel_rfl) (by kernel_rfl) (by kernel_rfl) (fun _ _ _ h => h) (Or.inl ⟨by rfl, ?_⟩) (fun _ => by assumption) ?_
      rotate_left
      ·(intro w hSw; go_simp; try (with_reducible rfl))
      try go_frame
      refine anyM_take0 (i := 2) (v := ?_) rfl (by decide) (by kernel_rfl) (by kernel_rfl) (by kernel_rfl) (fun _ _ _ h => h) (Or.inl ⟨by rfl, ?_⟩) (fun _ => by assumption) ?_
      rotate_left
      ·(intro w hSw; go_simp; try (with_reducible rfl))
      try go_frame
      refine anyM_take0 (i := 3) (v := ?_) rfl (by decide) (by kernel_rfl) (by kernel_rfl) (by kernel_rfl) (fun _ _ _ h => h) (Or.inl ⟨by rfl, ?_⟩) (fun _ => by assumption) ?_
      rotate_left
      ·(intro w hSw; go_simp; try (with_reducible rfl))
      try go_frame
      refine anyM_take (i := 4) (v := ?_) rfl rfl (by kernel_rfl) (by decide) (by kernel_rfl) (by kernel_rfl) (by kernel_rfl) (fun _ _ _ h => h) (Or.inl ⟨by rfl, ?_⟩) (by rfl) (by assumption) ?_
      rotate_left
      ·(intro w hSw; (try dsimp only at hSw); obtain ⟨hs0, hs1, hs2⟩ := hSw; go_simp; try (with_reducible rfl))
      try go_frame
      refine anyM_take0 (i := 5) (v := ?_) rfl (by decide) (by kernel_rfl) (by kernel_rfl) (by kernel_rfl) (fun _ _ _ h => h) (Or.inl ⟨by rfl, ?_⟩) (fun _ => by assumption) ?_
      rotate_left
      ·(intro w hSw; go_simp; try (with_reducible rfl))
      try go_frame
      refine anyM_take0 (i := 6) (v := ?_) rfl (by decide) (by kernel_rfl) (by kernel_rfl) (by kernel_rfl) (fun _ _ _ h => h) (Or.inl ⟨by rfl, ?_⟩) (fun _ => by assumption) ?_
      rotate_left
      ·(intro w hSw; go_simp; try (with_reducible rfl))
      try go_frame
      refine anyM_take (i := 7) (v := ?_) rfl rfl (by kernel_rfl) (by decide) (by kernel_rfl) (by kernel_rfl) (by kernel_rfl) (fun _ _ _ h => h) (Or.inl ⟨by rfl, ?_⟩) (by rfl) (by assumption) ?_
      rotate_left
      ·(intro w hSw; (try dsimp only at hSw); obtain ⟨hs0, hs1, hs2⟩ := hSw; go_simp; try (with_reducible rfl))
      try go_frame
      refine anyM_take0 (i := 8) (v := ?_) rfl (by decide) (by kernel_rfl) (by kernel_rfl) (by kernel_rfl) (fun _ _ _ h => h) (Or.inl ⟨by rfl, ?_⟩) (fun _ => by assumption) ?_
      rotate_left
      ·(intro w hSw; go_simp; try (with_reducible rfl))
      try go_frame
      refine anyM_take0 (i := 9) (v := ?_) rfl (by decide) (by kernel_rfl) (by kernel_rfl) (by kernel_rfl) (fun _ _ _ h => h) (Or.inl ⟨by rfl, ?_⟩) (fun _ => by assumption) ?_
      rotate_left
      ·(intro w hSw; go_simp; try (with_reducible rfl))
      try go_frame
      refine anyM_take (i := 10) (v := ?_) rfl rfl (by kernel_rfl) (by decide) (by kernel_rfl) (by kernel_rfl) (by kernel_rfl) (fun _ _ _ h => h) (Or.inl ⟨by rfl, ?_⟩) (by rfl) (by assumption) ?_
      rotate_left
      ·(intro w hSw; (try dsimp only at hSw); obtain ⟨hs0, hs1, hs2⟩ := hSw; go_simp; try (with_reducible rfl))
      try go_frame
      refine anyM_take0 (i := 11) (v := ?_) rfl (by decide) (by kernel_rfl) (by kernel_rfl) (by kernel_rfl) (fun _ _ _ h => h) (Or.inl ⟨by rfl, ?_⟩) (fun _ => by assumption) ?_
      rotate_left
      ·(intro w hSw; go_simp; try (with_reducible rfl))
      try go_frame
      have hal : Below wr.heap.size wr (wr.drew.alloc (.cells #[.string (Tx.mk x), .int .i64 (vy : Int)] 72)) := ((Below.refl _ _).drew).alloc (Nat.le_refl _) _
      have HLA := Lib.hid (HLS.out.keep hal)
      have hSA := HLA.out.io
      have hHA := (show (fun V : World => V.cell? ⟨sb, 6, none⟩ = some (.slice b.ba s.bin.length b.bc) ∧ V.cell? ⟨w.heap.size, 1, none⟩ = some (.string (Tx.mk x)) ∧ V.cell? ⟨g6, 2, none⟩ = some (.int .i64 (vy : Int))) _ from ⟨HLA.out.io.blk.seven.2.2.2.2.2.2, cell_below hal c1, cell_below hal i2⟩)
      refine anyM_ready (rs := [12]) (by kernel_rfl) (by simp) ?_
      refine ReadyM.cons rfl (fun K' hK => ?_) ReadyM.nil
      go_simp
      refine hK.out _ _ (fun _ => hHA) ?_
      clear hK K'
      try go_frame
      refine anyM_ready (rs := [13]) (by kernel_rfl) (by simp) ?_
      refine ReadyM.cons rfl (fun K' hK => ?_) ReadyM.nil
      have hct := HCT.out
      refine step_appG9 rfl _ _ rfl (sb + 1) (.slice b.ba s.bin.length b.bc) s.bin.length (St.eG.flat s.bin) (by rfl) (by rfl) (own_keepE HLS.out.io.bi (Below.refl _ _).drew) (by omega) (by have := (Array.getElem?_eq_some_iff.1 HLS.out.io.blk).1; show sb + 1 ≤ wr.heap.size; omega) (by rfl) (by simp [Value.oneCell']) ?_
      intro g8 cap8 w8 hown8 hgrow8 hnew8
      have hfl : St.eG.flat s.bin ++ (#[.string (Tx.mk x), .int .i64 (vy : Int)] : Array Value).toList = St.eG.flat (s.bin ++ [⟨Tx.mk x, (vy : Int)⟩]) := by rw [Enc.flat_snoc]; rfl
      obtain ⟨m1, m2, m3⟩ := hSA.moreG (t := ⟨Tx.mk x, (vy : Int)⟩) hgrow8 hown8 hfl
      have hb8 : Blk w8 sb _ _ := hSA.blk.of_block (hgrow8.block sb (Array.getElem?_eq_some_iff.1 hSA.blk).1 (fun e => by have := (hSA.bi.lt sb e.symm).1; omega))
      have hH8 := (show (fun V : World => V.cell? ⟨sb, 6, none⟩ = some (.slice b.ba s.bin.length b.bc) ∧ V.cell? ⟨w.heap.size, 1, none⟩ = some (.string (Tx.mk x)) ∧ V.cell? ⟨g6, 2, none⟩ = some (.int .i64 (vy : Int))) w8 from ⟨hb8.seven.2.2.2.2.2.2, cell_grown (cell_below hal c1) hgrow8 (HLS.out.nb w.heap.size (Nat.le_refl _)).2.2.2.2.2, cell_grown (cell_below hal i2) hgrow8 (HLS.out.nb g6 HLS.out.gl.1).2.2.2.2.2⟩)
      refine hK.out _ _ (fun _ => hH8) ?_
      clear hK K' hHeld
      try go_frame
      have hHeld := hH8
      refine anyM_take0 (i := 14) (v := ?_) rfl (by decide) (by kernel_rfl) (by kernel_rfl) (by kernel_rfl) (fun _ _ _ h => h) (Or.inl ⟨by rfl, ?_⟩) (fun _ => by assumption) ?_
      rotate_left
      ·(intro w hSw; go_simp; try (with_reducible rfl))
      try go_frame
      refine anyM_take0 (i := 15) (v := ?_) rfl (by decide) (by kernel_rfl) (by kernel_rfl) (by kernel_rfl) (fun _ _ _ h => h) (Or.inl ⟨by rfl, ?_⟩) (fun _ => by assumption) ?_
      rotate_left
      ·(intro w hSw; go_simp; try (with_reducible rfl))
      try go_frame
      clear hHeld hHA hH8
      obtain ⟨q0, q1, q2, q3, q4, q5, q6⟩ := hb8.seven
      have qf := hb8.free
      refine anyM_ready (rs := [16]) (by kernel_rfl) (by simp) ?_
      refine ReadyM.cons rfl (fun K hK => ?_) ReadyM.nil
      go_simp
      refine hK.out _ _ (fun h => absurd h (by simp)) ?_
      clear hK K
      try go_frame
      refine anyM_done (by kernel_rfl) ?_ _
      have HFR := Lib.hid (fr_B (sb := sb) (i := 6) (cap := cap8) (u := .slice (some ⟨g8, 0, none⟩) (s.bin.length + 1) cap8) HLA.out.bw hgrow8 hnew8 (s.bin ++ [⟨Tx.mk x, (vy : Int)⟩]))
      have HM1 := Lib.hid m1
      have HM2 := Lib.hid (HLA.out.down.trans m2)
      generalize w8.setCell ⟨sb, 6, none⟩ (.slice (some ⟨g8, 0, none⟩) (s.bin.length + 1) cap8) = wz at *
      clear m1 m2 m3 hb8 hSA hal hown8 hgrow8 hnew8 hfl q0 q1 q2 q3 q4 q5 q6 qf hv hct
      go_wp2_with fail
      go_ret
      exact ⟨HM2.out, .inl ⟨.bin ⟨Tx.mk x, (vy : Int)⟩, _, by rw [CE.out]; unfold St.entB; simp [Hy.out, show ¬ x = [] from fun e => HXE.out.2.1 e.symm], rfl, HM1.out, HFR.out⟩⟩
   ·skip
    have g3 : ((n : Int) == 3) = false := by simp; omega
    have h3 : ¬ (n : Int) = 3 := by omega
    have HRL := Lib.hid hR
    clear hnR hnn hR
    go_wp2_with fail
    go_ret
    exact ⟨HLS.out.down, .inr ⟨by rw [← HLE.out]; exact St.entB_len HRL.out, rfl⟩⟩
theorem before_is (x y : Cop) (w : World) :
  Calls Tryz.prog 64 #[.agg #[.string x.dig, .string x.tier, .bool x.good, .int .i64 x.asked], .agg #[.string y.dig, .string y.tier, .bool y.good, .int .i64 y.asked]] w fun e w' => e = .returned (.bool (St.ahead x y)) ∧ Below w.heap.size w w' := by
 obtain ⟨W1, hW1, hP, hz1, hB1⟩ := box w #[.string x.dig, .string x.tier, .bool x.good, .int .i64 x.asked] 70
 obtain ⟨W2, hW2, hQ, hz2, hB2⟩ := box W1 #[.string y.dig, .string y.tier, .bool y.good, .int .i64 y.asked] 70
 have HW1 := Lib.hid hW1; have HW2 := Lib.hid hW2
 have HBB := Lib.hid (below_up hB1 hB2)
 have hP2 := hP.keep hB2
 rw [hz1] at hQ
 have d0 : W2.cell? ⟨w.heap.size, 0, none⟩ = some (.string x.dig) := (hP2.cell 0).trans rfl
 have d1 : W2.cell? ⟨w.heap.size, 1, none⟩ = some (.string x.tier) := (hP2.cell 1).trans rfl
 have e0 : W2.cell? ⟨w.heap.size + 1, 0, none⟩ = some (.string y.dig) := (hQ.cell 0).trans rfl
 have e1 : W2.cell? ⟨w.heap.size + 1, 1, none⟩ = some (.string y.tier) := (hQ.cell 1).trans rfl
 have HV : Hid (St.ahead x y = (Op.bytesLess x.dig.toList y.dig.toList || (x.dig.toList == y.dig.toList && Op.bytesLess x.tier.toList y.tier.toList))) := Lib.hid rfl
 obtain ⟨a1, h1⟩ : ∃ a1, Op.bytesLess x.dig.toList y.dig.toList = a1 := ⟨_, rfl⟩
 obtain ⟨a2, h2⟩ : ∃ a2, (x.dig.toList == y.dig.toList) = a2 := ⟨_, rfl⟩
 obtain ⟨a3, h3⟩ : ∃ a3, Op.bytesLess x.tier.toList y.tier.toList = a3 := ⟨_, rfl⟩
 rw [h1, h2, h3] at HV
 clear hW1 hW2 hP hP2 hQ hB1 hB2 hz1 hz2
 cases a1 <;> cases a2 <;> cases a3 <;>
  (go_enter Tryz.func64, Tryz.ntmps64
   go_wp2_with fail
   rw [HW1.out, HW2.out]
   go_wp2_with fail
   go_ret
   exact ⟨ret_bool (by rw [HV.out]; rfl), HBB.out⟩)
namespace St
def faultE (f : Fil) : Int := if Fd.fileB f.dig = true then fileR f else 1
end St
theorem fileFault_is (x : Fil) (hz : x.dig.size ≤ 9223372036854775807) (w : World) :
  Calls Tryz.prog 61 #[.agg #[.string x.dig, .int .i64 x.size, .int .i64 x.kind, .string x.frm]] w fun e w' => e = .returned (.int .i64 (St.faultE x)) ∧ Below w.heap.size w w' := by
 obtain ⟨W3, hW3, hX3, hz3, hB3⟩ := box w #[.string x.dig, .int .i64 x.size, .int .i64 x.kind, .string x.frm] 68
 have HW3 := Lib.hid hW3; have HB3 := Lib.hid hB3
 have d0 : W3.cell? ⟨w.heap.size, 0, none⟩ = some (.string x.dig) := (hX3.cell 0).trans rfl
 have d1 : W3.cell? ⟨w.heap.size, 1, none⟩ = some (.int .i64 x.size) := (hX3.cell 1).trans rfl
 have d2 : W3.cell? ⟨w.heap.size, 2, none⟩ = some (.int .i64 x.kind) := (hX3.cell 2).trans rfl
 have d3 : W3.cell? ⟨w.heap.size, 3, none⟩ = some (.string x.frm) := (hX3.cell 3).trans rfl
 have HDG := Lib.hid (isDigest_is x.dig hz _ rfl W3)
 have HO1 := Lib.hid (fun W => inS_is x.size 0 1000000000 W)
 have HO2 := Lib.hid (fun W => inS_is x.kind 1 3 W)
 obtain ⟨q, hq⟩ : ∃ q, St.faultE x = q := ⟨_, rfl⟩
 rw [hq]
 unfold St.faultE St.fileR at hq
 clear hW3 hX3 hB3 hz3 hz
 generalize Fd.fileB x.dig = bd at *
 generalize St.inB x.size 0 1000000000 = b1 at *
 generalize St.inB x.kind 1 3 = b2 at *
 cases bd
 ·have HQ := Lib.hid hq
  clear hq
  go_enter Tryz.func61, Tryz.ntmps61
  go_wp2_with fail
  rw [HW3.out]
  go_wp2_with (first | (go_at_call 60; (with_reducible refine HDG.out.mono ?_); rintro e w4 ⟨rfl, rfl⟩) | (go_at_call 57; first | ((with_reducible refine (HO1.out _).mono ?_); rintro e w4 ⟨rfl, rfl⟩) | ((with_reducible refine (HO2.out _).mono ?_); rintro e w4 ⟨rfl, rfl⟩)))
  go_ret
  exact ⟨ret_int (by rw [← HQ.out]; rfl), HB3.out⟩
 cases b1
 ·have HQ := Lib.hid hq
  clear hq
  go_enter Tryz.func61, Tryz.ntmps61
  go_wp2_with fail
  rw [HW3.out]
  go_wp2_with (first | (go_at_call 60; (with_reducible refine HDG.out.mono ?_); rintro e w4 ⟨rfl, rfl⟩) | (go_at_call 57; first | ((with_reducible refine (HO1.out _).mono ?_); rintro e w4 ⟨rfl, rfl⟩) | ((with_reducible refine (HO2.out _).mono ?_); rintro e w4 ⟨rfl, rfl⟩)))
  go_ret
  exact ⟨ret_int (by rw [← HQ.out]; rfl), HB3.out⟩
 cases b2
 ·have HQ := Lib.hid hq
  clear hq
  go_enter Tryz.func61, Tryz.ntmps61
  go_wp2_with fail
  rw [HW3.out]
  go_wp2_with (first | (go_at_call 60; (with_reducible refine HDG.out.mono ?_); rintro e w4 ⟨rfl, rfl⟩) | (go_at_call 57; first | ((with_reducible refine (HO1.out _).mono ?_); rintro e w4 ⟨rfl, rfl⟩) | ((with_reducible refine (HO2.out _).mono ?_); rintro e w4 ⟨rfl, rfl⟩)))
  go_ret
  exact ⟨ret_int (by rw [← HQ.out]; rfl), HB3.out⟩
 by_cases hk : x.kind = 1
 ·have hk2 : (x.kind == 1) = true := by simpa using hk
  cases he : x.frm.toList.isEmpty
  ·have HQ : Hid ((1 : Int) = q) := Lib.hid (by rw [← hq, if_pos rfl, if_pos rfl, if_pos rfl, if_pos ⟨hk, he⟩])
   clear hq hk
   go_enter Tryz.func61, Tryz.ntmps61
   go_wp2_with fail
   rw [HW3.out]
   go_wp2_with (first | (go_at_call 60; (with_reducible refine HDG.out.mono ?_); rintro e w4 ⟨rfl, rfl⟩) | (go_at_call 57; first | ((with_reducible refine (HO1.out _).mono ?_); rintro e w4 ⟨rfl, rfl⟩) | ((with_reducible refine (HO2.out _).mono ?_); rintro e w4 ⟨rfl, rfl⟩)))
   go_ret
   exact ⟨ret_int HQ.out, HB3.out⟩
  ·have HQ : Hid ((0 : Int) = q) := Lib.hid (by rw [← hq, if_pos rfl, if_pos rfl, if_pos rfl, if_neg (by rintro ⟨_, g⟩; rw [he] at g; cases g)])
   clear hq hk
   go_enter Tryz.func61, Tryz.ntmps61
   go_wp2_with fail
   rw [HW3.out]
   go_wp2_with (first | (go_at_call 60; (with_reducible refine HDG.out.mono ?_); rintro e w4 ⟨rfl, rfl⟩) | (go_at_call 57; first | ((with_reducible refine (HO1.out _).mono ?_); rintro e w4 ⟨rfl, rfl⟩) | ((with_reducible refine (HO2.out _).mono ?_); rintro e w4 ⟨rfl, rfl⟩)))
   go_ret
   exact ⟨ret_int HQ.out, HB3.out⟩
 ·have hk2 : (x.kind == 1) = false := by simpa using hk
  have HQ : Hid ((0 : Int) = q) := Lib.hid (by rw [← hq, if_pos rfl, if_pos rfl, if_pos rfl, if_neg (by rintro ⟨g, _⟩; exact hk g)])
  clear hq
  go_enter Tryz.func61, Tryz.ntmps61
  go_wp2_with fail
  rw [HW3.out]
  go_wp2_with (first | (go_at_call 60; (with_reducible refine HDG.out.mono ?_); rintro e w4 ⟨rfl, rfl⟩) | (go_at_call 57; first | ((with_reducible refine (HO1.out _).mono ?_); rintro e w4 ⟨rfl, rfl⟩) | ((with_reducible refine (HO2.out _).mono ?_); rintro e w4 ⟨rfl, rfl⟩)))
  go_ret
  exact ⟨ret_int HQ.out, HB3.out⟩
theorem idxS_is (L : List ByteArray) (sa : Option Addr) (sc : Nat) (z : ByteArray) (w : World) (hr : RowE St.eS w sa L) (hl : L.length ≤ sc ∧ sc ≤ 9223372036854775807) :
  Calls Tryz.prog 13 #[.slice sa L.length sc, .string z] w fun e w' => (∃ r : Int, e = .returned (.int .i64 r) ∧ (0 ≤ r ↔ St.hasS L z = true)) ∧ w = w' := by
 have HR := Lib.hid hr
 have HQ : Hid (∀ r : Int, (0 ≤ r ↔ (L.drop 0).any (fun x => St.eq x z) = true) → (0 ≤ r ↔ St.hasS L z = true)) := Lib.hid fun r h => h
 obtain ⟨n, hn⟩ : ∃ n, L.length = n := ⟨_, rfl⟩
 have HN := Lib.hid hn
 rw [hn] at hl ⊢
 clear hr hn
 go_enter Tryz.func13, Tryz.ntmps13
 go_wp2_with fail
 go_loopg [8] n (fun gk i wr => ∃ j : Nat, j ≤ n ∧ gk = n - j ∧ i = .int .i64 j ∧ (∀ r : Int, (0 ≤ r ↔ (L.drop j).any (fun x => St.eq x z) = true) → (0 ≤ r ↔ St.hasS L z = true)) ∧ w = wr)
 case atStart => exact ⟨0, by omega, rfl, rfl, HQ.out, rfl⟩
 case round =>
  obtain ⟨j, hj, rfl, rfl, hs, rfl⟩ := hrel
  have HSC := Lib.hid hs; clear hs
  by_cases hlt : j < n
  ·obtain ⟨x, hx⟩ : ∃ x, L[j]? = some x := ⟨_, List.getElem?_eq_getElem (by rw [HN.out]; exact hlt)⟩
   obtain ⟨b, off, ha, hb, hcell⟩ := HR.out (by rw [HN.out]; omega)
   have c0 : w.cell? ⟨b, off + j, none⟩ = some (.string x) := by
    have := hcell j x hx 0 (.string x) rfl
    rw [show off + j * St.eS.k + 0 = off + j by simp [St.eS]] at this
    exact this
   have HX : Hid (L.drop j = x :: L.drop (j + 1)) := Lib.hid (by
    obtain ⟨h1, h2⟩ := List.getElem?_eq_some_iff.1 hx
    rw [List.drop_eq_getElem_cons h1, h2])
   have hj0 : (0 : Int) ≤ (j : Int) := by omega
   have hj1 : (j : Int) < (n : Int) := by omega
   obtain ⟨bq, hbq⟩ : ∃ bq, (x.toList == z.toList) = bq := ⟨_, rfl⟩
   obtain ⟨bq2, hbq2⟩ : ∃ bq, (z.toList == x.toList) = bq := ⟨_, rfl⟩
   have hbe : bq2 = bq := by
    rw [← hbq, ← hbq2, Bool.eq_iff_iff, beq_iff_eq, beq_iff_eq]
    exact eq_comm
   subst hbe
   have HBQ : Hid (St.eq x z = bq2) := Lib.hid hbq
   rw [ha]
   clear hcell hx
   cases bq2
   ·have HNX : Hid (∀ r : Int, (0 ≤ r ↔ (L.drop (j + 1)).any (fun x => St.eq x z) = true) → (0 ≤ r ↔ St.hasS L z = true)) := Lib.hid fun r h => HSC.out r (by rw [HX.out, List.any_cons, HBQ.out, Bool.false_or]; exact h)
    go_wp2_with fail
    rw [← ha]
    go_roundg (n - (j + 1))
    case rel => exact ⟨j + 1, by omega, rfl, by go_num, HNX.out, rfl⟩
    case measure => omega
   ·go_wp2_with fail
    go_ret
    exact ⟨⟨_, rfl, HSC.out _ (by rw [HX.out, List.any_cons, HBQ.out, Bool.true_or]; exact ⟨fun _ => rfl, fun _ => by omega⟩)⟩, rfl⟩
  ·obtain rfl : j = n := by omega
   go_wp2_with fail
   go_ret
   exact ⟨⟨_, rfl, HSC.out _ (by rw [List.drop_eq_nil_of_le (by rw [HN.out]; exact Nat.le_refl _)]; simp)⟩, rfl⟩
theorem containsS_is (L : List ByteArray) (sa : Option Addr) (sc : Nat) (z : ByteArray) (w : World) (hr : RowE St.eS w sa L) (hl : L.length ≤ sc ∧ sc ≤ 9223372036854775807) :
  Calls Tryz.prog 55 #[.slice sa L.length sc, .string z] w fun e w' => e = .returned (.bool (St.hasS L z)) ∧ w = w' := by
 have HC := Lib.hid (idxS_is L sa sc z w hr hl)
 go_enter Tryz.func55, Tryz.ntmps55
 go_wp2_with (go_at_call 13; (with_reducible refine HC.out.mono ?_); rintro e w4 ⟨⟨r, rfl, hr2⟩, rfl⟩)
 go_ret
 refine ⟨ret_bool ?_, rfl⟩
 rw [Bool.eq_iff_iff, ← hr2]
theorem keptError_is (s : Sto) (a : StA) (w : World) (hI : StIn w s a) :
  Calls Tryz.prog 67 #[.agg #[.int .i64 s.least, .int .i64 s.wait, .slice a.ta s.tiers.length a.tc, .slice a.fa s.files.length a.fc, .slice a.ca s.copies.length a.cc, .slice a.ha s.held.length a.hc, .slice a.ba s.bin.length a.bc]] w fun e w' => e = .returned (.int .i64 (St.keptE s)) ∧ Below w.heap.size w w' := by
 obtain ⟨W1, hW1, hP, hz1, hB1⟩ := box w #[.int .i64 s.least, .int .i64 s.wait, .slice a.ta s.tiers.length a.tc, .slice a.fa s.files.length a.fc, .slice a.ca s.copies.length a.cc, .slice a.ha s.held.length a.hc, .slice a.ba s.bin.length a.bc] 28
 have HW1 := Lib.hid hW1
 have HI1 := Lib.hid (hI.keep hB1)
 have q0 : W1.cell? ⟨w.heap.size, 0, none⟩ = some (.int .i64 s.least) := (hP.cell 0).trans rfl
 have q1 : W1.cell? ⟨w.heap.size, 1, none⟩ = some (.int .i64 s.wait) := (hP.cell 1).trans rfl
 have q2 : W1.cell? ⟨w.heap.size, 2, none⟩ = some (.slice a.ta s.tiers.length a.tc) := (hP.cell 2).trans rfl
 have q3 : W1.cell? ⟨w.heap.size, 3, none⟩ = some (.slice a.fa s.files.length a.fc) := (hP.cell 3).trans rfl
 have q4 : W1.cell? ⟨w.heap.size, 4, none⟩ = some (.slice a.ca s.copies.length a.cc) := (hP.cell 4).trans rfl
 have q5 : W1.cell? ⟨w.heap.size, 5, none⟩ = some (.slice a.ha s.held.length a.hc) := (hP.cell 5).trans rfl
 have q6 : W1.cell? ⟨w.heap.size, 6, none⟩ = some (.slice a.ba s.bin.length a.bc) := (hP.cell 6).trans rfl
 have HP := Lib.hid hP; have HB1 := Lib.hid hB1
 clear hW1 hP
 have hhl := hI.hl; have hbl := hI.bl
 obtain ⟨qa, hqa⟩ : ∃ qa, St.scan (St.heldE s.files) [] s.held = qa := ⟨_, rfl⟩
 obtain ⟨qb, hqb⟩ : ∃ qb, St.scan (St.binE s.files s.held) [] s.bin = qb := ⟨_, rfl⟩
 have HF : Hid (St.keptE s = if qa = 0 then qb else qa) := Lib.hid (by unfold St.keptE; rw [hqa, hqb])
 have HQ1 : Hid (St.scan (St.heldE s.files) (s.held.take 0) (s.held.drop 0) = qa) := Lib.hid hqa
 have HQ2 : Hid (St.scan (St.binE s.files s.held) (s.bin.take 0) (s.bin.drop 0) = qb) := Lib.hid hqb
 have HOR := Lib.hid (fun (d : ByteArray) W (hb : Below W1.heap.size W1 W) => original_is s a d W (HI1.out.keep hb))
 have HHS := Lib.hid (fun (d : ByteArray) W (hb : Below W1.heap.size W1 W) => containsS_is s.held a.ha a.hc d W (HI1.out.keep hb).he hhl)
 have HID := Lib.hid (fun (n : Int) W => inS_is n 0 73048 W)
 have HCL : Hid (∀ W, Below W1.heap.size W1 W → W.cell? ⟨w.heap.size, 0, none⟩ = some (.int .i64 s.least) ∧ W.cell? ⟨w.heap.size, 1, none⟩ = some (.int .i64 s.wait) ∧ W.cell? ⟨w.heap.size, 2, none⟩ = some (.slice a.ta s.tiers.length a.tc) ∧ W.cell? ⟨w.heap.size, 3, none⟩ = some (.slice a.fa s.files.length a.fc) ∧ W.cell? ⟨w.heap.size, 4, none⟩ = some (.slice a.ca s.copies.length a.cc) ∧ W.cell? ⟨w.heap.size, 5, none⟩ = some (.slice a.ha s.held.length a.hc) ∧ W.cell? ⟨w.heap.size, 6, none⟩ = some (.slice a.ba s.bin.length a.bc)) := Lib.hid fun W hb =>
  have k := HP.out.keep hb
  ⟨(k.cell 0).trans rfl, (k.cell 1).trans rfl, (k.cell 2).trans rfl, (k.cell 3).trans rfl, (k.cell 4).trans rfl, (k.cell 5).trans rfl, (k.cell 6).trans rfl⟩
 clear hI hqa hqb
 obtain ⟨n, hn⟩ : ∃ n, s.held.length = n := ⟨_, rfl⟩
 have HN := Lib.hid hn
 obtain ⟨nt, hnt⟩ : ∃ nt, s.bin.length = nt := ⟨_, rfl⟩
 have HNT := Lib.hid hnt
 rw [hn] at q5 hhl HW1 HOR HHS HCL ⊢
 rw [hnt] at q6 hbl HW1 HOR HCL ⊢
 clear hn hnt
 go_enter Tryz.func67, Tryz.ntmps67
 go_wp2_with fail
 rw [HW1.out]
 go_wp2_with fail
 clear q0 q1 q2 q3 q4 q5 q6
 go_loopg [10] n (fun gk i wr => ∃ j : Nat, j ≤ n ∧ gk = n - j ∧ i = .int .i64 j ∧ St.scan (St.heldE s.files) (s.held.take j) (s.held.drop j) = qa ∧ Below W1.heap.size W1 wr)
 case atStart => exact ⟨0, by omega, rfl, rfl, HQ1.out, Below.refl _ _⟩
 case round =>
  obtain ⟨j, hj, rfl, rfl, hs, hBW⟩ := hrel
  have HS := Lib.hid hs; clear hs
  have HBR := Lib.hid (below_up HB1.out hBW)
  by_cases hlt : j < n
  ·obtain ⟨x, hx⟩ : ∃ x, s.held[j]? = some x := ⟨_, List.getElem?_eq_getElem (by rw [HN.out]; exact hlt)⟩
   obtain ⟨b, off, ha, hb, hcell⟩ := (HI1.out.keep hBW).he (by rw [HN.out]; omega)
   have HCE : Hid (∀ (W : World), Below W1.heap.size W1 W → ∀ (i : Nat) (y : ByteArray), s.held[i]? = some y → W.cell? ⟨b, off + i, none⟩ = some (.string y)) := Lib.hid fun W hb i y hy => by
    obtain ⟨b2, off2, ha2, hb2, hc2⟩ := (HI1.out.keep hb).he (by rw [HN.out]; omega)
    rw [ha] at ha2; cases ha2
    have := hc2 i y hy 0 (.string y) rfl
    rw [show off + i * St.eS.k + 0 = off + i by simp [St.eS]] at this
    exact this
   have c0 := HCE.out _ hBW j x hx
   clear hcell
   have HX := Lib.hid hx
   obtain ⟨kd, hkd⟩ : ∃ kd, decide (St.kindOf s.files x = 1) = kd := ⟨_, rfl⟩
   have HOX := Lib.hid (HOR.out x _ hBW)
   rw [hkd] at HOX
   have HDF : Hid (St.heldE s.files (s.held.take j) x = if kd = true then (match (s.held.take j).getLast? with | some p => (if St.le x p = true then 5 else 0) | none => 0) else 7) := Lib.hid (by unfold St.heldE; rw [← hkd]; simp only [decide_eq_true_eq]; rfl)
   obtain ⟨m0, m1, m2, m3, m4, m5, m6⟩ := HCL.out _ hBW
   have hj0 : (0 : Int) ≤ (j : Int) := by omega
   have hj1 : (j : Int) < (n : Int) := by omega
   have HBW := Lib.hid hBW
   clear hx hkd hBW
   rw [ha] at m5 HOX HCL ⊢
   cases kd
   ·have HBD : Hid (St.heldE s.files (s.held.take j) x = 7) := Lib.hid (by rw [HDF.out]; rfl)
    have HE := Lib.hid (St.scan_here HS.out HX.out (by rw [HBD.out]; decide))
    go_wp2_with (go_at_call 62; (with_reducible refine HOX.out.mono ?_); rintro e w6 ⟨rfl, hB6⟩)
    go_ret
    exact ⟨ret_int (by rw [HF.out, HE.out, HBD.out]; rfl), below_up HBR.out hB6⟩
   ·have HDG : Hid (St.heldE s.files (s.held.take j) x = (match (s.held.take j).getLast? with | some p => (if St.le x p = true then 5 else 0) | none => 0)) := Lib.hid (by rw [HDF.out, if_pos rfl])
    go_upto_region 6 with (go_at_call 62; (with_reducible refine HOX.out.mono ?_); rintro e w6 ⟨rfl, hB6⟩; have HBJ := Lib.hid (below_up HBW.out hB6); have HAL := Lib.hid (below_up HBR.out hB6))
    clear m0 m1 m2 m3 m4 m5 m6 c0
    obtain ⟨m0, m1, m2, m3, m4, m5, m6⟩ := HCL.out _ HBJ.out
    rcases Nat.eq_zero_or_pos j with rfl | hjp
    ·have HBD : Hid (St.heldE s.files (s.held.take 0) x = 0) := Lib.hid (by rw [HDG.out, St.last_zero])
     have HE := Lib.hid (St.scan_next HS.out HX.out HBD.out)
     go_wp2_with fail
     rw [← ha]
     go_roundg (n - (0 + 1))
     case rel => exact ⟨0 + 1, by omega, rfl, by go_num, HE.out, HBJ.out⟩
     case measure => omega
    ·obtain ⟨p, hp, hlast⟩ := St.last_at (L := s.held) (by rw [HN.out]; exact hlt) hjp
     obtain ⟨i, rfl⟩ : ∃ i, j = i + 1 := ⟨j - 1, by omega⟩
     rw [Nat.add_sub_cancel] at hp
     have p0 := HCE.out _ HBJ.out i p hp
     obtain ⟨bl, hbq⟩ : ∃ bl, (Op.bytesLess x.toList p.toList || x.toList == p.toList) = bl := ⟨_, rfl⟩
     have HBQ : Hid (St.le x p = bl) := Lib.hid hbq
     have HDZ : Hid (St.heldE s.files (s.held.take (i + 1)) x = if bl = true then 5 else 0) := Lib.hid (by rw [HDG.out, hlast, ← HBQ.out])
     clear hp hlast
     cases bl
     ·have HBD : Hid (St.heldE s.files (s.held.take (i + 1)) x = 0) := Lib.hid (by rw [HDZ.out]; rfl)
      have HE := Lib.hid (St.scan_next HS.out HX.out HBD.out)
      go_wp2_with fail
      rw [← ha]
      go_roundg (n - (i + 1 + 1))
      case rel => exact ⟨i + 1 + 1, by omega, rfl, by go_num, HE.out, HBJ.out⟩
      case measure => omega
     ·have HBD : Hid (St.heldE s.files (s.held.take (i + 1)) x = 5) := Lib.hid (by rw [HDZ.out]; rfl)
      have HE := Lib.hid (St.scan_here HS.out HX.out (by rw [HBD.out]; decide))
      go_wp2_with fail
      go_ret
      exact ⟨ret_int (by rw [HF.out, HE.out, HBD.out]; rfl), HAL.out⟩
  ·obtain rfl : j = n := by omega
   have HE := HS.out
   rw [← HN.out] at HE
   have hq0 := St.scan_done HE
   have HF2 : Hid (St.keptE s = qb) := Lib.hid (by rw [HF.out, if_pos hq0])
   clear HE hq0
   obtain ⟨m0, m1, m2, m3, m4, m5, m6⟩ := HCL.out _ hBW
   have HBK := Lib.hid hBW
   clear hBW
   go_wp2_with fail
   clear m0 m1 m2 m3 m4 m5 m6
   go_loopg [35] nt (fun gk i wq => ∃ k : Nat, k ≤ nt ∧ gk = nt - k ∧ i = .int .i64 k ∧ St.scan (St.binE s.files s.held) (s.bin.take k) (s.bin.drop k) = qb ∧ Below W1.heap.size W1 wq)
   case atStart => exact ⟨0, by omega, rfl, rfl, HQ2.out, HBK.out⟩
   case round =>
    obtain ⟨k, hk, rfl, rfl, hs, hBWq⟩ := hrel
    have HS2 := Lib.hid hs; clear hs
    have HBQ := Lib.hid (below_up HB1.out hBWq)
    by_cases hlt2 : k < nt
    ·obtain ⟨x, hx⟩ : ∃ x, s.bin[k]? = some x := ⟨_, List.getElem?_eq_getElem (by rw [HNT.out]; exact hlt2)⟩
     obtain ⟨b, off, ha, hb, hcell⟩ := (HI1.out.keep hBWq).bi (by rw [HNT.out]; omega)
     have c0 : wr.cell? ⟨b, off + k * 2, none⟩ = some (.string x.dig) := hcell k x hx 0 (.string x.dig) rfl
     have c1 : wr.cell? ⟨b, off + k * 2 + 1, none⟩ = some (.int .i64 x.day) := hcell k x hx 1 (.int .i64 x.day) rfl
     clear hcell
     have HX := Lib.hid hx
     obtain ⟨W3, hW3, hX3, hz3, hB3⟩ := box wr #[.string x.dig, .int .i64 x.day] 72
     have HW3 := Lib.hid hW3
     have HD : Hid (∀ W, Below W3.heap.size W3 W → W.cell? ⟨wr.heap.size, 0, none⟩ = some (.string x.dig) ∧ W.cell? ⟨wr.heap.size, 1, none⟩ = some (.int .i64 x.day)) := Lib.hid fun W hb =>
      have k := hX3.keep hb
      ⟨(k.cell 0).trans rfl, (k.cell 1).trans rfl⟩
     obtain ⟨d0, d1⟩ := HD.out _ (Below.refl _ _)
     have HAL3 := Lib.hid (below_up HBQ.out hB3)
     have HAW3 := Lib.hid (below_up hBWq hB3)
     obtain ⟨kd, hkd⟩ : ∃ kd, decide (St.kindOf s.files x.dig = 1) = kd := ⟨_, rfl⟩
     have HOX := Lib.hid (HOR.out x.dig _ HAW3.out)
     rw [hkd] at HOX
     have HDF : Hid (St.binE s.files s.held (s.bin.take k) x = if kd = true then (match (s.bin.take k).getLast? with | some p => (if St.le x.dig p.dig = true then 5 else St.binR s.held x) | none => St.binR s.held x) else 7) := Lib.hid (by unfold St.binE; rw [← hkd]; simp only [decide_eq_true_eq]; rfl)
     obtain ⟨m0, m1, m2, m3, m4, m5, m6⟩ := HCL.out _ HAW3.out
     have hj0 : (0 : Int) ≤ (k : Int) := by omega
     have hj1 : (k : Int) < (nt : Int) := by omega
     have HPV : Hid (∀ W, Below W1.heap.size W1 W → ∀ (i : Nat) (y : Gon), s.bin[i]? = some y → W.cell? ⟨b, off + i * 2, none⟩ = some (.string y.dig)) := Lib.hid fun W hb i y hy => by
      obtain ⟨b2, off2, ha2, hb2, hc2⟩ := (HI1.out.keep hb).bi (by rw [HNT.out]; omega)
      rw [ha] at ha2; cases ha2
      exact hc2 i y hy 0 _ rfl
     clear hx hX3 hz3 hB3 hW3 hBWq hkd
     rw [ha] at m6 HOX HCL ⊢
     cases kd
     ·have HBD : Hid (St.binE s.files s.held (s.bin.take k) x = 7) := Lib.hid (by rw [HDF.out]; rfl)
      have HE := Lib.hid (St.scan_here HS2.out HX.out (by rw [HBD.out]; decide))
      go_upto_region 12 with fail
      rw [HW3.out]
      go_wp2_with (go_at_call 62; (with_reducible refine HOX.out.mono ?_); rintro e w6 ⟨rfl, hB6⟩)
      go_ret
      exact ⟨ret_int (by rw [HF2.out, HE.out, HBD.out]), below_up HAL3.out hB6⟩
     ·have HDG : Hid (St.binE s.files s.held (s.bin.take k) x = (match (s.bin.take k).getLast? with | some p => (if St.le x.dig p.dig = true then 5 else St.binR s.held x) | none => St.binR s.held x)) := Lib.hid (by rw [HDF.out, if_pos rfl])
      obtain ⟨dy, hdy⟩ : ∃ dy, St.inB x.day 0 73048 = dy := ⟨_, rfl⟩
      have HDY := Lib.hid hdy
      clear hdy
      go_upto_region 12 with fail
      rw [HW3.out]
      go_upto_region 14 with (go_at_call 62; (with_reducible refine HOX.out.mono ?_); rintro e w6 ⟨rfl, hB6⟩; have HB36 := Lib.hid hB6)
      have HAL6 := Lib.hid (below_up HAL3.out HB36.out)
      have HAW6 := Lib.hid (below_up HAW3.out HB36.out)
      have HAQ6 := HAW6
      clear c0 c1 m0 m1 m2 m3 m4 m5 m6 d0 d1
      obtain ⟨d0, d1⟩ := HD.out _ HB36.out
      obtain ⟨m0, m1, m2, m3, m4, m5, m6⟩ := HCL.out _ HAW6.out
      have k0 := cell_regrown d0
      have k6 := cell_regrown m6
      clear m0 m1 m2 m3 m4 m5 m6 d0 d1
      rcases Nat.eq_zero_or_pos k with rfl | hjp
      ·have HDZ : Hid (St.binE s.files s.held (s.bin.take 0) x = St.binR s.held x) := Lib.hid (by rw [HDG.out, St.last_zero])
       refine wp_region_quiet_below (by kernel_rfl) (by kernel_rfl) ?_
       repeat (go_big_quiet_step ((fail)))
       refine wpQuiet_nil ?_
       intro _ hw'
       obtain ⟨⟨dq, osq⟩, hw''⟩ := hw'
       subst hw''
       have hBw7 := below_regrown w6 dq osq
       generalize grow (redrawn w6 dq) osq = w7 at *
       clear dq osq
       clear k0 k6
       obtain ⟨d0, d1⟩ := HD.out _ (below_up HB36.out hBw7)
       obtain ⟨m0, m1, m2, m3, m4, m5, m6⟩ := HCL.out _ (below_up HAW6.out hBw7)
       have HAW7 := Lib.hid (below_up HAW6.out hBw7)
       have HAL7 := Lib.hid (below_up HAL6.out hBw7)
       have HAQ7 := Lib.hid (below_up HAQ6.out hBw7)
       have HH2 := Lib.hid (HHS.out x.dig _ HAW7.out)
       cases dy
       ·have HBD : Hid (St.binE s.files s.held (s.bin.take (0)) x = 2) := Lib.hid (by rw [HDZ.out]; unfold St.binR; rw [HDY.out]; rfl)
        have HE := Lib.hid (St.scan_here HS2.out HX.out (by rw [HBD.out]; decide))
        go_wp2_with (go_at_call 57; (with_reducible refine (HID.out _ _).mono ?_); rw [HDY.out]; rintro e w8 ⟨rfl, rfl⟩)
        go_ret
        exact ⟨ret_int (by rw [HF2.out, HE.out, HBD.out]), HAL7.out⟩
       ·obtain ⟨hh, hhh⟩ : ∃ hh, St.hasS s.held x.dig = hh := ⟨_, rfl⟩
        have HBR2 : Hid (St.binE s.files s.held (s.bin.take (0)) x = if hh = true then 6 else 0) := Lib.hid (by rw [HDZ.out]; unfold St.binR; rw [HDY.out, hhh]; rfl)
        rw [hhh] at HH2
        clear hhh
        cases hh
        ·have HBD : Hid (St.binE s.files s.held (s.bin.take (0)) x = 0) := Lib.hid (by rw [HBR2.out]; rfl)
         have HE := Lib.hid (St.scan_next HS2.out HX.out HBD.out)
         go_wp2_with (first | (go_at_call 57; (with_reducible refine (HID.out _ _).mono ?_); rw [HDY.out]; rintro e w8 ⟨rfl, rfl⟩) | (go_at_call 55; (with_reducible refine HH2.out.mono ?_); rintro e w8 ⟨rfl, rfl⟩))
         rw [← ha]
         go_roundg (nt - (0 + 1))
         case rel => exact ⟨0 + 1, by omega, rfl, by go_num, HE.out, HAQ7.out⟩
         case measure => omega
        ·have HBD : Hid (St.binE s.files s.held (s.bin.take (0)) x = 6) := Lib.hid (by rw [HBR2.out]; rfl)
         have HE := Lib.hid (St.scan_here HS2.out HX.out (by rw [HBD.out]; decide))
         go_wp2_with (first | (go_at_call 57; (with_reducible refine (HID.out _ _).mono ?_); rw [HDY.out]; rintro e w8 ⟨rfl, rfl⟩) | (go_at_call 55; (with_reducible refine HH2.out.mono ?_); rintro e w8 ⟨rfl, rfl⟩))
         go_ret
         exact ⟨ret_int (by rw [HF2.out, HE.out, HBD.out]), HAL7.out⟩
      ·obtain ⟨p, hp, hlast⟩ := St.last_at (L := s.bin) (by rw [HNT.out]; exact hlt2) hjp
       obtain ⟨i, rfl⟩ : ∃ i, k = i + 1 := ⟨k - 1, by omega⟩
       rw [Nat.add_sub_cancel] at hp
       have k5 := cell_regrown (HPV.out _ HAW6.out i p hp)
       obtain ⟨bl, hbq⟩ : ∃ bl, (Op.bytesLess x.dig.toList p.dig.toList || x.dig.toList == p.dig.toList) = bl := ⟨_, rfl⟩
       have HBQ2 : Hid (St.le x.dig p.dig = bl) := Lib.hid hbq
       have HDP : Hid (St.binE s.files s.held (s.bin.take (i + 1)) x = if bl = true then 5 else St.binR s.held x) := Lib.hid (by rw [HDG.out, hlast, ← HBQ2.out])
       have HBC := Lib.hid hbq
       clear hp hlast hbq
       refine wp_region_quiet_below (by kernel_rfl) (by kernel_rfl) ?_
       repeat (go_big_quiet_step ((fail)))
       refine wpQuiet_nil ?_
       intro _ hw'
       obtain ⟨⟨dq, osq⟩, hw''⟩ := hw'
       subst hw''
       have hBw7 := below_regrown w6 dq osq
       generalize grow (redrawn w6 dq) osq = w7 at *
       clear dq osq
       clear k0 k5 k6
       cases bl
       ·have HDZ : Hid (St.binE s.files s.held (s.bin.take (i + 1)) x = St.binR s.held x) := Lib.hid (by rw [HDP.out]; rfl)
        simp only [HBC.out]
        obtain ⟨d0, d1⟩ := HD.out _ (below_up HB36.out hBw7)
        obtain ⟨m0, m1, m2, m3, m4, m5, m6⟩ := HCL.out _ (below_up HAW6.out hBw7)
        have HAW7 := Lib.hid (below_up HAW6.out hBw7)
        have HAL7 := Lib.hid (below_up HAL6.out hBw7)
        have HAQ7 := Lib.hid (below_up HAQ6.out hBw7)
        have HH2 := Lib.hid (HHS.out x.dig _ HAW7.out)
        cases dy
        ·have HBD : Hid (St.binE s.files s.held (s.bin.take (i + 1)) x = 2) := Lib.hid (by rw [HDZ.out]; unfold St.binR; rw [HDY.out]; rfl)
         have HE := Lib.hid (St.scan_here HS2.out HX.out (by rw [HBD.out]; decide))
         go_wp2_with (go_at_call 57; (with_reducible refine (HID.out _ _).mono ?_); rw [HDY.out]; rintro e w8 ⟨rfl, rfl⟩)
         go_ret
         exact ⟨ret_int (by rw [HF2.out, HE.out, HBD.out]), HAL7.out⟩
        ·obtain ⟨hh, hhh⟩ : ∃ hh, St.hasS s.held x.dig = hh := ⟨_, rfl⟩
         have HBR2 : Hid (St.binE s.files s.held (s.bin.take (i + 1)) x = if hh = true then 6 else 0) := Lib.hid (by rw [HDZ.out]; unfold St.binR; rw [HDY.out, hhh]; rfl)
         rw [hhh] at HH2
         clear hhh
         cases hh
         ·have HBD : Hid (St.binE s.files s.held (s.bin.take (i + 1)) x = 0) := Lib.hid (by rw [HBR2.out]; rfl)
          have HE := Lib.hid (St.scan_next HS2.out HX.out HBD.out)
          go_wp2_with (first | (go_at_call 57; (with_reducible refine (HID.out _ _).mono ?_); rw [HDY.out]; rintro e w8 ⟨rfl, rfl⟩) | (go_at_call 55; (with_reducible refine HH2.out.mono ?_); rintro e w8 ⟨rfl, rfl⟩))
          rw [← ha]
          go_roundg (nt - (i + 1 + 1))
          case rel => exact ⟨i + 1 + 1, by omega, rfl, by go_num, HE.out, HAQ7.out⟩
          case measure => omega
         ·have HBD : Hid (St.binE s.files s.held (s.bin.take (i + 1)) x = 6) := Lib.hid (by rw [HBR2.out]; rfl)
          have HE := Lib.hid (St.scan_here HS2.out HX.out (by rw [HBD.out]; decide))
          go_wp2_with (first | (go_at_call 57; (with_reducible refine (HID.out _ _).mono ?_); rw [HDY.out]; rintro e w8 ⟨rfl, rfl⟩) | (go_at_call 55; (with_reducible refine HH2.out.mono ?_); rintro e w8 ⟨rfl, rfl⟩))
          go_ret
          exact ⟨ret_int (by rw [HF2.out, HE.out, HBD.out]), HAL7.out⟩
       ·have HBD : Hid (St.binE s.files s.held (s.bin.take (i + 1)) x = 5) := Lib.hid (by rw [HDP.out]; rfl)
        have HE := Lib.hid (St.scan_here HS2.out HX.out (by rw [HBD.out]; decide))
        simp only [HBC.out]
        go_wp2_with fail
        go_ret
        exact ⟨ret_int (by rw [HF2.out, HE.out, HBD.out]), below_up HAL6.out hBw7⟩
    ·obtain rfl : k = nt := by omega
     have HE := HS2.out
     rw [← HNT.out] at HE
     have HE2 := Lib.hid (St.scan_done HE)
     clear HE
     go_wp2_with fail
     go_ret
     exact ⟨ret_int (by rw [HF2.out, HE2.out]), HBQ.out⟩
end Go.Proofs.YtbbgebpgpadclaaGreatDoor
