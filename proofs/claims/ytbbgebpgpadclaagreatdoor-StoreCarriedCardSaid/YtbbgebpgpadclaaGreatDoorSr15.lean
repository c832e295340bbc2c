/- Parts of the proof, no condition: StRrF. -/
import Derived.Test.YtbbgebpgpadclaaGreatDoorSr12
import Derived.Test.YtbbgebpgpadclaaGreatDoorSr9
import Derived.Maps.RangeWalk
set_option maxRecDepth 100000
set_option maxHeartbeats 16000000
set_option linter.unusedSimpArgs false
set_option linter.unusedVariables false
namespace Go.Proofs.YtbbgebpgpadclaaGreatDoor
open Go.RowKit Go.Sort Go.Shelf Go.Maps
theorem St.entC_len {R : List (List UInt8)} (h4 : ¬ R.length = 4) : St.ent (St.kC :: R) = none := by
 show St.entC R = none
 match R, h4 with
 | [], _ => rfl
 | [_], _ => rfl
 | [_, _], _ => rfl
 | [_, _, _], _ => rfl
 | [_, _, _, _], h => exact absurd rfl h
 | _ :: _ :: _ :: _ :: _ :: _, _ => rfl
theorem line_copy (l : List UInt8) (R : List (List UInt8)) (s : Sto) (b : StA) (sb : Nat) (w : World) (hm : Mx w) (hS : StIO w sb s b) (hl : l.length ≤ 999999) (hk : Pr.spl 32 l = St.kC :: R) (hne : [] ∉ St.kC :: R) (hct : s.tiers.length ≤ 900000 ∧ s.files.length ≤ 900000 ∧ s.copies.length ≤ 900000 ∧ s.held.length ≤ 900000 ∧ s.bin.length ≤ 900000) : Calls Tryz.prog 19 #[.pointer (some ⟨sb, 0, none⟩), .string (Tx.mk l)] w (LinePost w sb s b (St.kC :: R)) := by
 have HNE := Lib.hid hne
 have HCT := Lib.hid hct
 obtain ⟨L, hL⟩ : ∃ L, St.kC :: R = L := ⟨_, rfl⟩
 have HLE := Lib.hid hL
 rw [hL] at hk HNE ⊢
 clear hne hct hL
 have hlL : ∀ x ∈ L, x.length ≤ 1000000000000 := fun x hx => by
  have := Pr.spl_mem_le 32 l x (by rw [hk]; exact hx)
  omega
 have hLn : L.length ≤ 1000000 := by have := Pr.spl_len_le 32 l; rw [hk] at this; omega
 have hLp : 0 < L.length := by rw [← hk]; exact List.length_pos_iff.2 (Pr.spl_ne 32 l)
 have HSP := Lib.hid (split_is l 32 (by omega) w hm)
 rw [hk] at HSP
 obtain ⟨n, hn⟩ : ∃ n, L.length = n := ⟨_, rfl⟩
 have HNL := Lib.hid hn
 have HCN : Hid (∀ V sa, RowE St.eS V sa (L.map Tx.mk) → Calls Tryz.prog 55 #[.slice sa n n, .string ⟨#[]⟩] V fun e w' => e = .returned (.bool (decide ([] ∈ L))) ∧ V = w') := Lib.hid fun V sa hr => by
  have := containsW_is [] L sa n V hr hLn
  rwa [hn] at this
 rw [hn] at HSP hLn hLp
 have HFW := Lib.hid (fun x (hx : x ∈ L) V => few13_any x (hlL x hx) V)
 have HIO := Lib.hid hS
 have HK := Lib.hid hk
 have HLL := Lib.hid hlL
 clear hlL hk hS hn
 go_enter Tryz.func19, Tryz.ntmps19
 go_upto_region 2 with (go_at_call 12; (with_reducible refine HSP.out.mono ?_); rintro e w1 ⟨rfl, hrow, hB1, hz1⟩)
 have HROW := Lib.hid hrow; have HB1 := Lib.hid hB1; have HZ1 := Lib.hid hz1
 clear hrow hB1 hz1 HSP
 rw [decide_eq_false HNE.out] at HCN
 go_upto_region 4 with (go_at_call 55; (with_reducible refine (HCN.out w1 _ HROW.out.rowE).mono ?_); rintro e w2 ⟨rfl, rfl⟩)
 clear HCN
 go_wp2_with fail
 go_loopg [6, 7, 19] n (fun gk v6 v7 i wr => ∃ (j : Nat) (ns : List Int), j ≤ n ∧ gk = n - j ∧ i = .int .i64 j ∧ ns.length = j ∧ (∀ i x (v : Nat), i < j → L[i]? = some x → St.num13 x = some v → ns[i]? = some (v : Int)) ∧ wr.ownsRow w1.heap.size 3 1 v6 j (ns.map (.int .i64)) ∧ wr.ownsRow w1.heap.size 4 1 v7 j ((L.take j).map (fun x => .bool (St.num13 x).isSome)) ∧ Below w1.heap.size w1 wr)
 case atStart => exact ⟨0, [], by omega, rfl, rfl, rfl, fun i x v h => by omega, ⟨rfl, .inl ⟨rfl, rfl⟩⟩, ⟨rfl, .inl ⟨rfl, rfl⟩⟩, Below.refl _ _⟩
 case round =>
  obtain ⟨j, ns, hj, rfl, rfl, hnl, hnv, ho6, ho7, hB⟩ := hrel
  have HNV := Lib.hid hnv; have HNN := Lib.hid hnl
  clear hnv hnl
  by_cases hlt : j < n
  ·obtain ⟨x, hx⟩ : ∃ x, L[j]? = some x := ⟨_, List.getElem?_eq_getElem (by rw [HNL.out]; exact hlt)⟩
   have c0 : wr.cell? ⟨w.heap.size, j, none⟩ = some (.string (Tx.mk x)) := by
    have := (HROW.out.keep hB).2 j (by rw [HNL.out]; exact hlt)
    rw [List.getD_eq_getElem?_getD, hx] at this
    exact this
   have hj0 : (0 : Int) ≤ (j : Int) := by omega
   have hj1 : (j : Int) < (n : Int) := by omega
   have HX := Lib.hid hx
   have HF := Lib.hid (HFW.out x (List.mem_of_getElem? hx))
   have HO6 := Lib.hid ho6; have HO7 := Lib.hid ho7; have HB := Lib.hid hB
   obtain ⟨N6, hN6⟩ : ∃ N6, ns.map (Value.int .i64) = N6 := ⟨_, rfl⟩
   obtain ⟨N7, hN7⟩ : ∃ N7, (L.take j).map (fun x => Value.bool (St.num13 x).isSome) = N7 := ⟨_, rfl⟩
   have H6 := Lib.hid hN6; have H7 := Lib.hid hN7
   rw [hN6] at HO6
   rw [hN7] at HO7
   obtain ⟨ok, hok⟩ : ∃ ok, (St.num13 x).isSome = ok := ⟨_, rfl⟩
   rw [hok] at HF
   have HOK := Lib.hid hok
   clear hx ho6 ho7 hB hN6 hN7 hok
   go_wp2_with (first
    | (go_at_call 56; (with_reducible refine (HF.out wr).mono ?_); rintro e w3 ⟨v, rfl, hv, hB3⟩; have h6 := own_keepE HO6.out hB3; have h7 := own_keepE HO7.out hB3; have hBw := below_up HB.out hB3; have hsw := hBw.size)
    | (at_builtin; (refine list_appI rfl _ _ rfl _ _ j N6 (by rfl) (by rfl) h6 (by omega) (by omega) (by rfl) (by simp [Value.oneCell']) ?_; intro g8 cap8 w8 hown8 hgrow8; have hB8 := below_grownE (below_allocs hBw _) (h6.alloc _) hgrow8 (by simp; omega); have h78 := (own_keepE h7 ((Below.refl _ _).alloc (Nat.le_refl _) _)).kept hgrow8 (rp_apart h6 h7 (by decide)); have hs8 := hB8.size))
    | (at_builtin; refine list_appB rfl _ _ rfl _ _ j N7 (by rfl) (by rfl) h78 (by omega) (by omega) (by rfl) (by simp [Value.oneCell']) ?_; intro g9 cap9 w9 hown9 hgrow9))
   go_roundg (n - (j + 1))
   case rel =>
    refine ⟨j + 1, ns ++ [v], by omega, rfl, by go_num, by simp [HNN.out], ?_, ?_, ?_, ?_⟩
    ·intro i y u hi hy hu
     rcases Nat.lt_or_ge i j with h | h
     ·rw [List.getElem?_append_left (by rw [HNN.out]; exact h)]; exact HNV.out i y u h hy hu
     ·obtain rfl : i = j := by omega
      rw [HX.out] at hy; cases hy
      rw [List.getElem?_append_right (by rw [HNN.out]; exact Nat.le_refl _), HNN.out, Nat.sub_self, hv u hu]; rfl
    ·have e6 : (ns ++ [v]).map (Value.int .i64) = N6 ++ [.int .i64 v] := by rw [List.map_append, H6.out]; rfl
     rw [e6]
     exact (own_keepE hown8 ((Below.refl _ _).alloc (Nat.le_refl _) _)).kept hgrow9 (rp_apart h78 hown8 (by decide))
    ·have e7 : (L.take (j + 1)).map (fun x => Value.bool (St.num13 x).isSome) = N7 ++ [.bool ok] := by
      rw [List.take_add_one, HX.out, List.map_append, H7.out]; simp [HOK.out]
     rw [e7]
     exact hown9
    ·exact below_grownE (below_allocs hB8 _) (h78.alloc _) hgrow9 (by simp; omega)
   case measure => omega
  ·obtain rfl : n = j := by omega
   have hlt0 : 0 < n := hLp
   obtain ⟨g6, cap6, rfl, hc6⟩ : ∃ g cap, u6 = .slice (some ⟨g, 0, none⟩) n cap ∧ OwnC wr w1.heap.size 3 1 g n cap (ns.map (Value.int .i64)) := by
    rcases OwnV.of_own ho6 with ⟨_, h0, _⟩ | h
    ·omega
    ·exact h
   obtain ⟨g7, cap7, rfl, hc7⟩ : ∃ g cap, u7 = .slice (some ⟨g, 0, none⟩) n cap ∧ OwnC wr w1.heap.size 4 1 g n cap ((L.take n).map (fun x => Value.bool (St.num13 x).isSome)) := by
    rcases OwnV.of_own ho7 with ⟨_, h0, _⟩ | h
    ·omega
    ·exact h
   have HLS : Hid (LnSt w wr sb s b L g6 g7) := Lib.hid
    ⟨fun i x hx => by
      have hi := (List.getElem?_eq_some_iff.1 hx).1
      have := (HROW.out.keep hB).2 i hi
      rw [List.getD_eq_getElem?_getD, hx] at this
      exact this,
     fun i x v hx hv => by
      have hi := (List.getElem?_eq_some_iff.1 hx).1
      rw [HNL.out] at hi
      rw [ho6.cellAt i (by omega), List.getElem?_map, HNV.out i x v hi hx hv]; rfl,
     fun i x hx => by
      have hi := (List.getElem?_eq_some_iff.1 hx).1
      have ht : L.take n = L := List.take_of_length_le (by rw [HNL.out]; exact Nat.le_refl _)
      rw [ht] at ho7
      rw [ho7.cellAt i (by have := HNL.out; omega), List.getElem?_map, hx]; rfl,
     HIO.out.keep (below_up HB1.out hB), below_up HB1.out hB, fun q hq => HIO.out.noB hq, ⟨by have := (ho6.lt g6 rfl).1; have := HB1.out.size; omega, (Array.getElem?_eq_some_iff.1 HIO.out.blk).1⟩⟩
   have hnn := HNL.out
   clear ho6 ho7 hc6 hc7 hB HNV HNN HFW HROW HB1 HZ1 HIO HLL
   have c0 : wr.cell? ⟨w.heap.size, 0, none⟩ = some (.string ⟨#[99, 111, 112, 121]⟩) := HLS.out.cw 0 St.kC (by rw [← HLE.out]; rfl)
   have hnR : n = R.length + 1 := by rw [← hnn, ← HLE.out]; rfl
   by_cases hR : R.length = 4
   ·obtain ⟨x, y, u, v, rfl⟩ : ∃ x y u v, R = [x, y, u, v] := by
     match R, hR with
     | [x, y, u, v], _ => exact ⟨x, y, u, v, rfl⟩
    obtain rfl : n = 5 := by simp at hnR; exact hnR
    have hxe := HNE.out
    simp only [List.mem_cons, List.not_mem_nil, or_false, not_or, ← HLE.out] at hxe
    have HXE := Lib.hid hxe
    clear hR hnR hnn hxe
    have CE : Hid (St.ent L = St.entC [x, y, u, v]) := Lib.hid (by rw [← HLE.out]; rfl)
    cases hv : St.num13 v with
    | none =>
      have Hv := Lib.hid hv
      clear hv
      have e4 : wr.cell? ⟨g7, 4, none⟩ = some (.bool false) := by have := HLS.out.cb 4 v (by rw [← HLE.out]; rfl); rwa [Hv.out] at this
      go_wp2_with fail
      go_ret
      exact ⟨HLS.out.down, .inr ⟨by rw [CE.out]; unfold St.entC; cases St.two u St.wGood St.wBad <;> simp [Hv.out], rfl⟩⟩
    | some vv =>
      have Hv := Lib.hid hv
      clear hv
      have e4 : wr.cell? ⟨g7, 4, none⟩ = some (.bool true) := by have := HLS.out.cb 4 v (by rw [← HLE.out]; rfl); rwa [Hv.out] at this
      have i4 := HLS.out.ci 4 v vv (by rw [← HLE.out]; rfl) Hv.out
      have c1 := HLS.out.cw 1 x (by rw [← HLE.out]; rfl)
      have c2 := HLS.out.cw 2 y (by rw [← HLE.out]; rfl)
      by_cases hwGood : u = St.wGood
      ·skip
       subst hwGood
       have c3 : wr.cell? ⟨w.heap.size, 3, none⟩ = some (.string ⟨#[103, 111, 111, 100]⟩) := HLS.out.cw 3 St.wGood (by rw [← HLE.out]; rfl)
       have T4 : Hid (St.two St.wGood St.wGood St.wBad = some true) := Lib.hid (by decide)
       go_upto_region 28 with fail
       have hv : Below wr.heap.size wr wr.drew := (Below.refl _ _).drew
       have hHeld : (fun V : World => V.cell? ⟨sb, 4, none⟩ = some (.slice b.ca s.copies.length b.cc) ∧ V.cell? ⟨w.heap.size, 1, none⟩ = some (.string (Tx.mk x)) ∧ V.cell? ⟨w.heap.size, 2, none⟩ = some (.string (Tx.mk y)) ∧ V.cell? ⟨w.heap.size, 3, none⟩ = some (.string ⟨#[103, 111, 111, 100]⟩) ∧ V.cell? ⟨g6, 4, none⟩ = some (.int .i64 (vv : Int))) wr.drew := ⟨(HLS.out.io.keep hv).blk.seven.2.2.2.2.1, cell_below hv c1, cell_below hv c2, cell_below hv c3, cell_below hv i4⟩
       refine wp_region_until (fun V => V.cell? ⟨sb, 4, none⟩ = some (.slice b.ca s.copies.length b.cc) ∧ V.cell? ⟨w.heap.size, 1, none⟩ = some (.string (Tx.mk x)) ∧ V.cell? ⟨w.heap.size, 2, none⟩ = some (.string (Tx.mk y)) ∧ V.cell? ⟨w.heap.size, 3, none⟩ = some (.string ⟨#[103, 111, 111, 100]⟩) ∧ V.cell? ⟨g6, 4, none⟩ = some (.int .i64 (vv : Int))) 23 (by kernel_rfl) ?_
       refine anyM_take0 (i := 0) (v := ?_) rfl (by decide) (by kernel_rfl) (by kernel_rfl) (by kernel_rfl) (fun _ _ _ h => h) (Or.inl ⟨by rfl, ?_⟩) (fun _ => by assumption) ?_
       rotate_left
       ·(intro w hSw; go_simp; try (with_reducible rfl))
       try go_frame
       refine anyM_take0 (i := 1) (v := ?_) rfl (by decide) (by kernel_rfl) (by kernel_rfl) (by kernel_rfl) (fun _ _ _ h => h) (Or.inl ⟨by rfl, ?_⟩) (fun _ => by assumption) ?_
       rotate_left
       ·(intro w hSw; go_simp; try (with_reducible rfl))
       try go_frame
       refine anyM_take0 (i := 2) (v := ?_) rfl (by decide) (by kernel_rfl) (by kernel_rfl) (by kernel_rfl) (fun _ _ _ h => h) (Or.inl ⟨by rfl, ?_⟩) (fun _ => by assumption) ?_
       rotate_left
       ·(intro w hSw; go_simp; try (with_reducible rfl))
       try go_frame
       refine anyM_take0 (i := 3) (v := ?_) rfl (by decide) (by kernel_rfl) (by kernel_rfl) (by kernel_rfl) (fun _ _ _ h => h) (Or.inl ⟨by rfl, ?_⟩) (fun _ => by assumption) ?_
       rotate_left
       ·(intro w hSw; go_simp; try (with_reducible rfl))
       try go_frame
       refine anyM_take (i := 4) (v := ?_) rfl rfl (by kernel_rfl) (by decide) (by kernel_rfl) (by kernel_rfl) (by kernel_rfl) (fun _ _ _ h => h) (Or.inl ⟨by rfl, ?_⟩) (by rfl) (by assumption) ?_
       rotate_left
       ·(intro w hSw; (try dsimp only at hSw); obtain ⟨hs0, hs1, hs2, hs3, hs4⟩ := hSw; go_simp; try (with_reducible rfl))
       try go_frame
       refine anyM_take0 (i := 5) (v := ?_) rfl (by decide) (by kernel_rfl) (by kernel_rfl) (by kernel_rfl) (fun _ _ _ h => h) (Or.inl ⟨by rfl, ?_⟩) (fun _ => by assumption) ?_
       rotate_left
       ·(intro w hSw; go_simp; try (with_reducible rfl))
       try go_frame
       refine anyM_take0 (i := 6) (v := ?_) rfl (by decide) (by kernel_rfl) (by kernel_rfl) (by kernel_rfl) (fun _ _ _ h => h) (Or.inl ⟨by rfl, ?_⟩) (fun _ => by assumption) ?_
       rotate_left
       ·(intro w hSw; go_simp; try (with_reducible rfl))
       try go_frame
       refine anyM_take (i := 7) (v := ?_) rfl rfl (by kernel_rfl) (by decide) (by kernel_rfl) (by kernel_rfl) (by kernel_rfl) (fun _ _ _ h => h) (Or.inl ⟨by rfl, ?_⟩) (by rfl) (by assumption) ?_
       rotate_left
       ·(intro w hSw; (try dsimp only at hSw); obtain ⟨hs0, hs1, hs2, hs3, hs4⟩ := hSw; go_simp; try (with_reducible rfl))
       try go_frame
       refine anyM_take0 (i := 8) (v := ?_) rfl (by decide) (by kernel_rfl) (by kernel_rfl) (by kernel_rfl) (fun _ _ _ h => h) (Or.inl ⟨by rfl, ?_⟩) (fun _ => by assumption) ?_
       rotate_left
       ·(intro w hSw; go_simp; try (with_reducible rfl))
       try go_frame
       refine anyM_take0 (i := 9) (v := ?_) rfl (by decide) (by kernel_rfl) (by kernel_rfl) (by kernel_rfl) (fun _ _ _ h => h) (Or.inl ⟨by rfl, ?_⟩) (fun _ => by assumption) ?_
       rotate_left
       ·(intro w hSw; go_simp; try (with_reducible rfl))
       try go_frame
       refine anyM_take (i := 10) (v := ?_) rfl rfl (by kernel_rfl) (by decide) (by kernel_rfl) (by kernel_rfl) (by kernel_rfl) (fun _ _ _ h => h) (Or.inl ⟨by rfl, ?_⟩) (by rfl) (by assumption) ?_
       rotate_left
       ·(intro w hSw; (try dsimp only at hSw); obtain ⟨hs0, hs1, hs2, hs3, hs4⟩ := hSw; go_simp; try (with_reducible rfl))
       try go_frame
       refine anyM_take0 (i := 11) (v := ?_) rfl (by decide) (by kernel_rfl) (by kernel_rfl) (by kernel_rfl) (fun _ _ _ h => h) (Or.inl ⟨by rfl, ?_⟩) (fun _ => by assumption) ?_
       rotate_left
       ·(intro w hSw; go_simp; try (with_reducible rfl))
       try go_frame
       refine anyM_take0 (i := 12) (v := ?_) rfl (by decide) (by kernel_rfl) (by kernel_rfl) (by kernel_rfl) (fun _ _ _ h => h) (Or.inl ⟨by rfl, ?_⟩) (fun _ => by assumption) ?_
       rotate_left
       ·(intro w hSw; go_simp; try (with_reducible rfl))
       try go_frame
       refine anyM_take (i := 13) (v := ?_) rfl rfl (by kernel_rfl) (by decide) (by kernel_rfl) (by kernel_rfl) (by kernel_rfl) (fun _ _ _ h => h) (Or.inl ⟨by rfl, ?_⟩) (by rfl) (by assumption) ?_
       rotate_left
       ·(intro w hSw; (try dsimp only at hSw); obtain ⟨hs0, hs1, hs2, hs3, hs4⟩ := hSw; go_simp; try (with_reducible rfl))
       try go_frame
       refine anyM_take0 (i := 14) (v := ?_) rfl (by decide) (by kernel_rfl) (by kernel_rfl) (by kernel_rfl) (fun _ _ _ h => h) (Or.inl ⟨by rfl, ?_⟩) (fun _ => by assumption) ?_
       rotate_left
       ·(intro w hSw; go_simp; try (with_reducible rfl))
       try go_frame
       refine anyM_take0 (i := 15) (v := ?_) rfl (by decide) (by kernel_rfl) (by kernel_rfl) (by kernel_rfl) (fun _ _ _ h => h) (Or.inl ⟨by rfl, ?_⟩) (fun _ => by assumption) ?_
       rotate_left
       ·(intro w hSw; go_simp; try (with_reducible rfl))
       try go_frame
       refine anyM_take0 (i := 16) (v := ?_) rfl (by decide) (by kernel_rfl) (by kernel_rfl) (by kernel_rfl) (fun _ _ _ h => h) (Or.inl ⟨by rfl, ?_⟩) (fun _ => by assumption) ?_
       rotate_left
       ·(intro w hSw; go_simp; try (with_reducible rfl))
       try go_frame
       refine anyM_take (i := 17) (v := ?_) rfl rfl (by kernel_rfl) (by decide) (by kernel_rfl) (by kernel_rfl) (by kernel_rfl) (fun _ _ _ h => h) (Or.inl ⟨by rfl, ?_⟩) (by rfl) (by assumption) ?_
       rotate_left
       ·(intro w hSw; (try dsimp only at hSw); obtain ⟨hs0, hs1, hs2, hs3, hs4⟩ := hSw; go_simp; try (with_reducible rfl))
       try go_frame
       refine anyM_take0 (i := 18) (v := ?_) rfl (by decide) (by kernel_rfl) (by kernel_rfl) (by kernel_rfl) (fun _ _ _ h => h) (Or.inl ⟨by rfl, ?_⟩) (fun _ => by assumption) ?_
       rotate_left
       ·(intro w hSw; go_simp; try (with_reducible rfl))
       try go_frame
       have hal : Below wr.heap.size wr (wr.drew.alloc (.cells #[.string (Tx.mk x), .string (Tx.mk y), .bool true, .int .i64 (vv : Int)] 70)) := ((Below.refl _ _).drew).alloc (Nat.le_refl _) _
       have HLA := Lib.hid (HLS.out.keep hal)
       have hSA := HLA.out.io
       have hHA := (show (fun V : World => V.cell? ⟨sb, 4, none⟩ = some (.slice b.ca s.copies.length b.cc) ∧ V.cell? ⟨w.heap.size, 1, none⟩ = some (.string (Tx.mk x)) ∧ V.cell? ⟨w.heap.size, 2, none⟩ = some (.string (Tx.mk y)) ∧ V.cell? ⟨w.heap.size, 3, none⟩ = some (.string ⟨#[103, 111, 111, 100]⟩) ∧ V.cell? ⟨g6, 4, none⟩ = some (.int .i64 (vv : Int))) _ from ⟨HLA.out.io.blk.seven.2.2.2.2.1, cell_below hal c1, cell_below hal c2, cell_below hal c3, cell_below hal i4⟩)
       refine anyM_ready (rs := [19]) (by kernel_rfl) (by simp) ?_
       refine ReadyM.cons rfl (fun K' hK => ?_) ReadyM.nil
       go_simp
       refine hK.out _ _ (fun _ => hHA) ?_
       clear hK K'
       try go_frame
       refine anyM_ready (rs := [20]) (by kernel_rfl) (by simp) ?_
       refine ReadyM.cons rfl (fun K' hK => ?_) ReadyM.nil
       have hct := HCT.out
       refine step_appC9 rfl _ _ rfl (sb + 1) (.slice b.ca s.copies.length b.cc) s.copies.length (St.eC.flat s.copies) (by rfl) (by rfl) (own_keepE HLS.out.io.co (Below.refl _ _).drew) (by omega) (by have := (Array.getElem?_eq_some_iff.1 HLS.out.io.blk).1; show sb + 1 ≤ wr.heap.size; omega) (by rfl) (by simp [Value.oneCell']) ?_
       intro g8 cap8 w8 hown8 hgrow8 hnew8
       have hfl : St.eC.flat s.copies ++ (#[.string (Tx.mk x), .string (Tx.mk y), .bool true, .int .i64 (vv : Int)] : Array Value).toList = St.eC.flat (s.copies ++ [⟨Tx.mk x, Tx.mk y, true, (vv : Int)⟩]) := by rw [Enc.flat_snoc]; rfl
       obtain ⟨m1, m2, m3⟩ := hSA.moreC (t := ⟨Tx.mk x, Tx.mk y, true, (vv : Int)⟩) hgrow8 hown8 hfl
       have hb8 : Blk w8 sb _ _ := hSA.blk.of_block (hgrow8.block sb (Array.getElem?_eq_some_iff.1 hSA.blk).1 (fun e => by have := (hSA.co.lt sb e.symm).1; omega))
       have hH8 := (show (fun V : World => V.cell? ⟨sb, 4, none⟩ = some (.slice b.ca s.copies.length b.cc) ∧ V.cell? ⟨w.heap.size, 1, none⟩ = some (.string (Tx.mk x)) ∧ V.cell? ⟨w.heap.size, 2, none⟩ = some (.string (Tx.mk y)) ∧ V.cell? ⟨w.heap.size, 3, none⟩ = some (.string ⟨#[103, 111, 111, 100]⟩) ∧ V.cell? ⟨g6, 4, none⟩ = some (.int .i64 (vv : Int))) w8 from ⟨hb8.seven.2.2.2.2.1, cell_grown (cell_below hal c1) hgrow8 (HLS.out.nb w.heap.size (Nat.le_refl _)).2.2.2.1, cell_grown (cell_below hal c2) hgrow8 (HLS.out.nb w.heap.size (Nat.le_refl _)).2.2.2.1, cell_grown (cell_below hal c3) hgrow8 (HLS.out.nb w.heap.size (Nat.le_refl _)).2.2.2.1, cell_grown (cell_below hal i4) hgrow8 (HLS.out.nb g6 HLS.out.gl.1).2.2.2.1⟩)
       refine hK.out _ _ (fun _ => hH8) ?_
       clear hK K' hHeld
       try go_frame
       have hHeld := hH8
       refine anyM_take0 (i := 21) (v := ?_) rfl (by decide) (by kernel_rfl) (by kernel_rfl) (by kernel_rfl) (fun _ _ _ h => h) (Or.inl ⟨by rfl, ?_⟩) (fun _ => by assumption) ?_
       rotate_left
       ·(intro w hSw; go_simp; try (with_reducible rfl))
       try go_frame
       refine anyM_take0 (i := 22) (v := ?_) rfl (by decide) (by kernel_rfl) (by kernel_rfl) (by kernel_rfl) (fun _ _ _ h => h) (Or.inl ⟨by rfl, ?_⟩) (fun _ => by assumption) ?_
       rotate_left
       ·(intro w hSw; go_simp; try (with_reducible rfl))
       try go_frame
       clear hHeld hHA hH8
       obtain ⟨q0, q1, q2, q3, q4, q5, q6⟩ := hb8.seven
       have qf := hb8.free
       refine anyM_ready (rs := [23]) (by kernel_rfl) (by simp) ?_
       refine ReadyM.cons rfl (fun K hK => ?_) ReadyM.nil
       go_simp
       refine hK.out _ _ (fun h => absurd h (by simp)) ?_
       clear hK K
       try go_frame
       refine anyM_done (by kernel_rfl) ?_ _
       have HFR := Lib.hid (fr_C (sb := sb) (i := 4) (cap := cap8) (u := .slice (some ⟨g8, 0, none⟩) (s.copies.length + 1) cap8) HLA.out.bw hgrow8 hnew8 (s.copies ++ [⟨Tx.mk x, Tx.mk y, true, (vv : Int)⟩]))
       have HM1 := Lib.hid m1
       have HM2 := Lib.hid (HLA.out.down.trans m2)
       generalize w8.setCell ⟨sb, 4, none⟩ (.slice (some ⟨g8, 0, none⟩) (s.copies.length + 1) cap8) = wz at *
       clear m1 m2 m3 hb8 hSA hal hown8 hgrow8 hnew8 hfl q0 q1 q2 q3 q4 q5 q6 qf hv hct
       go_wp2_with fail
       go_ret
       exact ⟨HM2.out, .inl ⟨.cop ⟨Tx.mk x, Tx.mk y, true, (vv : Int)⟩, _, by rw [CE.out]; unfold St.entC; simp [Hv.out, T4.out, show ¬ x = [] from fun e => HXE.out.2.1 e.symm, show ¬ y = [] from fun e => HXE.out.2.2.1 e.symm], rfl, HM1.out, HFR.out⟩⟩
      by_cases hwBad : u = St.wBad
      ·skip
       subst hwBad
       have c3 : wr.cell? ⟨w.heap.size, 3, none⟩ = some (.string ⟨#[98, 97, 100]⟩) := HLS.out.cw 3 St.wBad (by rw [← HLE.out]; rfl)
       have T4 : Hid (St.two St.wBad St.wGood St.wBad = some false) := Lib.hid (by decide)
       go_upto_region 28 with fail
       have hv : Below wr.heap.size wr wr.drew := (Below.refl _ _).drew
       have hHeld : (fun V : World => V.cell? ⟨sb, 4, none⟩ = some (.slice b.ca s.copies.length b.cc) ∧ V.cell? ⟨w.heap.size, 1, none⟩ = some (.string (Tx.mk x)) ∧ V.cell? ⟨w.heap.size, 2, none⟩ = some (.string (Tx.mk y)) ∧ V.cell? ⟨w.heap.size, 3, none⟩ = some (.string ⟨#[98, 97, 100]⟩) ∧ V.cell? ⟨g6, 4, none⟩ = some (.int .i64 (vv : Int))) wr.drew := ⟨(HLS.out.io.keep hv).blk.seven.2.2.2.2.1, cell_below hv c1, cell_below hv c2, cell_below hv c3, cell_below hv i4⟩
       refine wp_region_until (fun V => V.cell? ⟨sb, 4, none⟩ = some (.slice b.ca s.copies.length b.cc) ∧ V.cell? ⟨w.heap.size, 1, none⟩ = some (.string (Tx.mk x)) ∧ V.cell? ⟨w.heap.size, 2, none⟩ = some (.string (Tx.mk y)) ∧ V.cell? ⟨w.heap.size, 3, none⟩ = some (.string ⟨#[98, 97, 100]⟩) ∧ V.cell? ⟨g6, 4, none⟩ = some (.int .i64 (vv : Int))) 23 (by kernel_rfl) ?_
       refine anyM_take0 (i := 0) (v := ?_) rfl (by decide) (by kernel_rfl) (by kernel_rfl) (by kernel_rfl) (fun _ _ _ h => h) (Or.inl ⟨by rfl, ?_⟩) (fun _ => by assumption) ?_
       rotate_left
       ·(intro w hSw; go_simp; try (with_reducible rfl))
       try go_frame
       refine anyM_take0 (i := 1) (v := ?_) rfl (by decide) (by kernel_rfl) (by kernel_rfl) (by kernel_rfl) (fun _ _ _ h => h) (Or.inl ⟨by rfl, ?_⟩) (fun _ => by assumption) ?_
       rotate_left
       ·(intro w hSw; go_simp; try (with_reducible rfl))
       try go_frame
       refine anyM_take0 (i := 2) (v := ?_) rfl (by decide) (by kernel_rfl) (by kernel_rfl) (by kernel_rfl) (fun _ _ _ h => h) (Or.inl ⟨by rfl, ?_⟩) (fun _ => by assumption) ?_
       rotate_left
       ·(intro w hSw; go_simp; try (with_reducible rfl))
       try go_frame
       refine anyM_take0 (i := 3) (v := ?_) rfl (by decide) (by kernel_rfl) (by kernel_rfl) (by kernel_rfl) (fun _ _ _ h => h) (Or.inl ⟨by rfl, ?_⟩) (fun _ => by assumption) ?_
       rotate_left
       ·(intro w hSw; go_simp; try (with_reducible rfl))
       try go_frame
       refine anyM_take (i := 4) (v := ?_) rfl rfl (by kernel_rfl) (by decide) (by kernel_rfl) (by kernel_rfl) (by kernel_rfl) (fun _ _ _ h => h) (Or.inl ⟨by rfl, ?_⟩) (by rfl) (by assumption) ?_
       rotate_left
       ·(intro w hSw; (try dsimp only at hSw); obtain ⟨hs0, hs1, hs2, hs3, hs4⟩ := hSw; go_simp; try (with_reducible rfl))
       try go_frame
       refine anyM_take0 (i := 5) (v := ?_) rfl (by decide) (by kernel_rfl) (by kernel_rfl) (by kernel_rfl) (fun _ _ _ h => h) (Or.inl ⟨by rfl, ?_⟩) (fun _ => by assumption) ?_
       rotate_left
       ·(intro w hSw; go_simp; try (with_reducible rfl))
       try go_frame
       refine anyM_take0 (i := 6) (v := ?_) rfl (by decide) (by kernel_rfl) (by kernel_rfl) (by kernel_rfl) (fun _ _ _ h => h) (Or.inl ⟨by rfl, ?_⟩) (fun _ => by assumption) ?_
       rotate_left
       ·(intro w hSw; go_simp; try (with_reducible rfl))
       try go_frame
       refine anyM_take (i := 7) (v := ?_) rfl rfl (by kernel_rfl) (by decide) (by kernel_rfl) (by kernel_rfl) (by kernel_rfl) (fun _ _ _ h => h) (Or.inl ⟨by rfl, ?_⟩) (by rfl) (by assumption) ?_
       rotate_left
       ·(intro w hSw; (try dsimp only at hSw); obtain ⟨hs0, hs1, hs2, hs3, hs4⟩ := hSw; go_simp; try (with_reducible rfl))
       try go_frame
       refine anyM_take0 (i := 8) (v := ?_) rfl (by decide) (by kernel_rfl) (by kernel_rfl) (by kernel_rfl) (fun _ _ _ h => h) (Or.inl ⟨by rfl, ?_⟩) (fun _ => by assumption) ?_
       rotate_left
       ·(intro w hSw; go_simp; try (with_reducible rfl))
       try go_frame
       refine anyM_take0 (i := 9) (v := ?_) rfl (by decide) (by kernel_rfl) (by kernel_rfl) (by kernel_rfl) (fun _ _ _ h => h) (Or.inl ⟨by rfl, ?_⟩) (fun _ => by assumption) ?_
       rotate_left
       ·(intro w hSw; go_simp; try (with_reducible rfl))
       try go_frame
       refine anyM_take (i := 10) (v := ?_) rfl rfl (by kernel_rfl) (by decide) (by kernel_rfl) (by kernel_rfl) (by kernel_rfl) (fun _ _ _ h => h) (Or.inl ⟨by rfl, ?_⟩) (by rfl) (by assumption) ?_
       rotate_left
       ·(intro w hSw; (try dsimp only at hSw); obtain ⟨hs0, hs1, hs2, hs3, hs4⟩ := hSw; go_simp; try (with_reducible rfl))
       try go_frame
       refine anyM_take0 (i := 11) (v := ?_) rfl (by decide) (by kernel_rfl) (by kernel_rfl) (by kernel_rfl) (fun _ _ _ h => h) (Or.inl ⟨by rfl, ?_⟩) (fun _ => by assumption) ?_
       rotate_left
       ·(intro w hSw; go_simp; try (with_reducible rfl))
       try go_frame
       refine anyM_take0 (i := 12) (v := ?_) rfl (by decide) (by kernel_rfl) (by kernel_rfl) (by kernel_rfl) (fun _ _ _ h => h) (Or.inl ⟨by rfl, ?_⟩) (fun _ => by assumption) ?_
       rotate_left
       ·(intro w hSw; go_simp; try (with_reducible rfl))
       try go_frame
       refine anyM_take (i := 13) (v := ?_) rfl rfl (by kernel_rfl) (by decide) (by kernel_rfl) (by kernel_rfl) (by kernel_rfl) (fun _ _ _ h => h) (Or.inl ⟨by rfl, ?_⟩) (by rfl) (by assumption) ?_
       rotate_left
       ·(intro w hSw; (try dsimp only at hSw); obtain ⟨hs0, hs1, hs2, hs3, hs4⟩ := hSw; go_simp; try (with_reducible rfl))
       try go_frame
       refine anyM_take0 (i := 14) (v := ?_) rfl (by decide) (by kernel_rfl) (by kernel_rfl) (by kernel_rfl) (fun _ _ _ h => h) (Or.inl ⟨by rfl, ?_⟩) (fun _ => by assumption) ?_
       rotate_left
       ·(intro w hSw; go_simp; try (with_reducible rfl))
       try go_frame
       refine anyM_take0 (i := 15) (v := ?_) rfl (by decide) (by kernel_rfl) (by kernel_rfl) (by kernel_rfl) (fun _ _ _ h => h) (Or.inl ⟨by rfl, ?_⟩) (fun _ => by assumption) ?_
       rotate_left
       ·(intro w hSw; go_simp; try (with_reducible rfl))
       try go_frame
       refine anyM_take0 (i := 16) (v := ?_) rfl (by decide) (by kernel_rfl) (by kernel_rfl) (by kernel_rfl) (fun _ _ _ h => h) (Or.inl ⟨by rfl, ?_⟩) (fun _ => by assumption) ?_
       rotate_left
       ·(intro w hSw; go_simp; try (with_reducible rfl))
       try go_frame
       refine anyM_take (i := 17) (v := ?_) rfl rfl (by kernel_rfl) (by decide) (by kernel_rfl) (by kernel_rfl) (by kernel_rfl) (fun _ _ _ h => h) (Or.inl ⟨by rfl, ?_⟩) (by rfl) (by assumption) ?_
       rotate_left
       ·(intro w hSw; (try dsimp only at hSw); obtain ⟨hs0, hs1, hs2, hs3, hs4⟩ := hSw; go_simp; try (with_reducible rfl))
       try go_frame
       refine anyM_take0 (i := 18) (v := ?_) rfl (by decide) (by kernel_rfl) (by kernel_rfl) (by kernel_rfl) (fun _ _ _ h => h) (Or.inl ⟨by rfl, ?_⟩) (fun _ => by assumption) ?_
       rotate_left
       ·(intro w hSw; go_simp; try (with_reducible rfl))
       try go_frame
       have hal : Below wr.heap.size wr (wr.drew.alloc (.cells #[.string (Tx.mk x), .string (Tx.mk y), .bool false, .int .i64 (vv : Int)] 70)) := ((Below.refl _ _).drew).alloc (Nat.le_refl _) _
       have HLA := Lib.hid (HLS.out.keep hal)
       have hSA := HLA.out.io
       have hHA := (show (fun V : World => V.cell? ⟨sb, 4, none⟩ = some (.slice b.ca s.copies.length b.cc) ∧ V.cell? ⟨w.heap.size, 1, none⟩ = some (.string (Tx.mk x)) ∧ V.cell? ⟨w.heap.size, 2, none⟩ = some (.string (Tx.mk y)) ∧ V.cell? ⟨w.heap.size, 3, none⟩ = some (.string ⟨#[98, 97, 100]⟩) ∧ V.cell? ⟨g6, 4, none⟩ = some (.int .i64 (vv : Int))) _ from ⟨HLA.out.io.blk.seven.2.2.2.2.1, cell_below hal c1, cell_below hal c2, cell_below hal c3, cell_below hal i4⟩)
       refine anyM_ready (rs := [19]) (by kernel_rfl) (by simp) ?_
       refine ReadyM.cons rfl (fun K' hK => ?_) ReadyM.nil
       go_simp
       refine hK.out _ _ (fun _ => hHA) ?_
       clear hK K'
       try go_frame
       refine anyM_ready (rs := [20]) (by kernel_rfl) (by simp) ?_
       refine ReadyM.cons rfl (fun K' hK => ?_) ReadyM.nil
       have hct := HCT.out
       refine step_appC9 rfl _ _ rfl (sb + 1) (.slice b.ca s.copies.length b.cc) s.copies.length (St.eC.flat s.copies) (by rfl) (by rfl) (own_keepE HLS.out.io.co (Below.refl _ _).drew) (by omega) (by have := (Array.getElem?_eq_some_iff.1 HLS.out.io.blk).1; show sb + 1 ≤ wr.heap.size; omega) (by rfl) (by simp [Value.oneCell']) ?_
       intro g8 cap8 w8 hown8 hgrow8 hnew8
       have hfl : St.eC.flat s.copies ++ (#[.string (Tx.mk x), .string (Tx.mk y), .bool false, .int .i64 (vv : Int)] : Array Value).toList = St.eC.flat (s.copies ++ [⟨Tx.mk x, Tx.mk y, false, (vv : Int)⟩]) := by rw [Enc.flat_snoc]; rfl
       obtain ⟨m1, m2, m3⟩ := hSA.moreC (t := ⟨Tx.mk x, Tx.mk y, false, (vv : Int)⟩) hgrow8 hown8 hfl
       have hb8 : Blk w8 sb _ _ := hSA.blk.of_block (hgrow8.block sb (Array.getElem?_eq_some_iff.1 hSA.blk).1 (fun e => by have := (hSA.co.lt sb e.symm).1; omega))
       have hH8 := (show (fun V : World => V.cell? ⟨sb, 4, none⟩ = some (.slice b.ca s.copies.length b.cc) ∧ V.cell? ⟨w.heap.size, 1, none⟩ = some (.string (Tx.mk x)) ∧ V.cell? ⟨w.heap.size, 2, none⟩ = some (.string (Tx.mk y)) ∧ V.cell? ⟨w.heap.size, 3, none⟩ = some (.string ⟨#[98, 97, 100]⟩) ∧ V.cell? ⟨g6, 4, none⟩ = some (.int .i64 (vv : Int))) w8 from ⟨hb8.seven.2.2.2.2.1, cell_grown (cell_below hal c1) hgrow8 (HLS.out.nb w.heap.size (Nat.le_refl _)).2.2.2.1, cell_grown (cell_below hal c2) hgrow8 (HLS.out.nb w.heap.size (Nat.le_refl _)).2.2.2.1, cell_grown (cell_below hal c3) hgrow8 (HLS.out.nb w.heap.size (Nat.le_refl _)).2.2.2.1, cell_grown (cell_below hal i4) hgrow8 (HLS.out.nb g6 HLS.out.gl.1).2.2.2.1⟩)
       refine hK.out _ _ (fun _ => hH8) ?_
       clear hK K' hHeld
       try go_frame
       have hHeld := hH8
       refine anyM_take0 (i := 21) (v := ?_) rfl (by decide) (by kernel_rfl) (by kernel_rfl) (by kernel_rfl) (fun _ _ _ h => h) (Or.inl ⟨by rfl, ?_⟩) (fun _ => by assumption) ?_
       rotate_left
       ·(intro w hSw; go_simp; try (with_reducible rfl))
       try go_frame
       refine anyM_take0 (i := 22) (v := ?_) rfl (by decide) (by kernel_rfl) (by kernel_rfl) (by kernel_rfl) (fun _ _ _ h => h) (Or.inl ⟨by rfl, ?_⟩) (fun _ => by assumption) ?_
       rotate_left
       ·(intro w hSw; go_simp; try (with_reducible rfl))
       try go_frame
       clear hHeld hHA hH8
       obtain ⟨q0, q1, q2, q3, q4, q5, q6⟩ := hb8.seven
       have qf := hb8.free
       refine anyM_ready (rs := [23]) (by kernel_rfl) (by simp) ?_
       refine ReadyM.cons rfl (fun K hK => ?_) ReadyM.nil
       go_simp
       refine hK.out _ _ (fun h => absurd h (by simp)) ?_
       clear hK K
       try go_frame
       refine anyM_done (by kernel_rfl) ?_ _
       have HFR := Lib.hid (fr_C (sb := sb) (i := 4) (cap := cap8) (u := .slice (some ⟨g8, 0, none⟩) (s.copies.length + 1) cap8) HLA.out.bw hgrow8 hnew8 (s.copies ++ [⟨Tx.mk x, Tx.mk y, false, (vv : Int)⟩]))
       have HM1 := Lib.hid m1
       have HM2 := Lib.hid (HLA.out.down.trans m2)
       generalize w8.setCell ⟨sb, 4, none⟩ (.slice (some ⟨g8, 0, none⟩) (s.copies.length + 1) cap8) = wz at *
       clear m1 m2 m3 hb8 hSA hal hown8 hgrow8 hnew8 hfl q0 q1 q2 q3 q4 q5 q6 qf hv hct
       go_wp2_with fail
       go_ret
       exact ⟨HM2.out, .inl ⟨.cop ⟨Tx.mk x, Tx.mk y, false, (vv : Int)⟩, _, by rw [CE.out]; unfold St.entC; simp [Hv.out, T4.out, show ¬ x = [] from fun e => HXE.out.2.1 e.symm, show ¬ y = [] from fun e => HXE.out.2.2.1 e.symm], rfl, HM1.out, HFR.out⟩⟩
      ·skip
       have c3 := HLS.out.cw 3 u (by rw [← HLE.out]; rfl)
       have hz0 := mkNe (u := St.wGood) hwGood
       have hz1 := mkNe (u := St.wBad) hwBad
       have HwGood := Lib.hid hwGood
       have HwBad := Lib.hid hwBad
       clear hwGood hwBad
       generalize Tx.mk u = pz at *
       unfold St.wGood at hz0
       unfold St.wBad at hz1
       obtain ⟨hz0a, hz0b, hz0c⟩ := hz0
       obtain ⟨hz1a, hz1b, hz1c⟩ := hz1
       go_wp2_with fail
       go_ret
       exact ⟨HLS.out.down, .inr ⟨by rw [CE.out]; unfold St.entC; simp [St.two, HwGood.out, HwBad.out], rfl⟩⟩
   ·skip
    have g5 : ((n : Int) == 5) = false := by simp; omega
    have h5 : ¬ (n : Int) = 5 := by omega
    have HRL := Lib.hid hR
    clear hnR hnn hR
    go_wp2_with fail
    go_ret
    exact ⟨HLS.out.down, .inr ⟨by rw [← HLE.out]; exact St.entC_len HRL.out, rfl⟩⟩
end Go.Proofs.YtbbgebpgpadclaaGreatDoor
