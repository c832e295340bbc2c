/- Parts of the proof, no condition: StTlW. -/
import Derived.Test.YthdiccdnggloiaaGreatDoorEv16
import Derived.Test.YthdiccdnggloiaaGreatDoorEv17
import Derived.Test.YthdiccdnggloiaaGreatDoorTl2
set_option maxRecDepth 100000
set_option maxHeartbeats 8000000
set_option linter.unusedSimpArgs false
set_option linter.unusedVariables false
namespace Go.Proofs.YthdiccdnggloiaaGreatDoor
open Go.RowKit Go.Sort Go.Shelf Go.Maps
theorem awayR_is (L : List Tir) (sa : Option Addr) (sc : Nat) (w : World) (hr : RowE St.eT w sa L) (hl : L.length ≤ 1000000) : Calls Tryz.prog 119 #[.slice sa L.length sc] w fun e w' => e = .returned (.int .i64 (St.awayN L : Nat)) ∧ Below w.heap.size w w' := by
 have HR := Lib.hid hr
 obtain ⟨q, hq⟩ : ∃ q, St.awayN L = q := ⟨_, rfl⟩
 have HQ := Lib.hid hq
 obtain ⟨n, hn⟩ : ∃ n, L.length = n := ⟨_, rfl⟩
 have HN := Lib.hid hn
 rw [hn] at hl ⊢
 rw [hq]
 clear hr hn hq
 go_enter Tryz.func119, Tryz.ntmps119
 go_wp2_with fail
 go_loopg [3, 8] n (fun gk c i wr => ∃ j k : Nat, j ≤ n ∧ gk = n - j ∧ i = .int .i64 j ∧ c = .int .i64 (k : Int) ∧ k = St.awayN (L.take j) ∧ Below w.heap.size w wr)
 case atStart => exact ⟨0, 0, by omega, rfl, rfl, rfl, rfl, Below.refl _ _⟩
 case round =>
  obtain ⟨j, k, hj, rfl, rfl, rfl, hk, hB⟩ := hrel
  have HK := Lib.hid hk
  have hk2 : k ≤ 1000000 := by
   have h1 := St.awayN_le (L.take j)
   rw [List.length_take] at h1; omega
  clear hk
  by_cases hlt : j < n
  ·obtain ⟨x, hx⟩ : ∃ x, L[j]? = some x := ⟨_, List.getElem?_eq_getElem (by rw [HN.out]; exact hlt)⟩
   obtain ⟨b, off, ha, hb, hcell⟩ := (HR.out.keep hB) (by rw [HN.out]; omega)
   have c0 : wr.cell? ⟨b, off + j * 4, none⟩ = some (.string x.name) := hcell j x hx 0 (.string x.name) rfl
   have c1 : wr.cell? ⟨b, off + j * 4 + 1, none⟩ = some (.int .i64 x.room) := hcell j x hx 1 (.int .i64 x.room) rfl
   have c2 : wr.cell? ⟨b, off + j * 4 + 2, none⟩ = some (.int .i64 x.cost) := hcell j x hx 2 (.int .i64 x.cost) rfl
   have c3 : wr.cell? ⟨b, off + j * 4 + 3, none⟩ = some (.bool x.away) := hcell j x hx 3 (.bool x.away) rfl
   clear hcell
   have HNX := Lib.hid (St.awayN_next hx)
   obtain ⟨W3, hW3, hX3, hz3, hB3⟩ := box wr #[.string x.name, .int .i64 x.room, .int .i64 x.cost, .bool x.away] 46
   have HW3 := Lib.hid hW3
   have HAW := Lib.hid (below_up hB hB3)
   obtain ⟨e0, e1, e2, e3⟩ := hX3.four
   have hj0 : (0 : Int) ≤ (j : Int) := by omega
   have hj1 : (j : Int) < (n : Int) := by omega
   obtain ⟨bq, hbq⟩ : ∃ bq, x.away = bq := ⟨_, rfl⟩
   rw [hbq] at HNX e3
   rw [hbq] at c3 HW3
   clear hx hX3 hW3 hz3 hB3 hB
   rw [ha]
   cases bq
   ·go_upto_region 5 with fail
    rw [HW3.out]
    go_wp2_with fail
    rw [← ha]
    go_roundg (n - (j + 1))
    case rel => exact ⟨j + 1, k, by omega, rfl, by go_num, rfl, by rw [HNX.out, HK.out]; simp, HAW.out⟩
    case measure => omega
   ·go_upto_region 5 with fail
    rw [HW3.out]
    go_wp2_with fail
    rw [← ha]
    go_roundg (n - (j + 1))
    case rel => exact ⟨j + 1, k + 1, by omega, rfl, by go_num, by go_num, by rw [HNX.out, HK.out]; simp, HAW.out⟩
    case measure => omega
  ·obtain rfl : j = n := by omega
   go_wp2_with fail
   go_ret
   exact ⟨ret_int (by rw [HK.out, ← HQ.out, ← HN.out, List.take_length]), hB⟩
def RowPost {α : Type} (E : Enc α) (w : World) (L : List α) (e : Ending) (w' : World) : Prop := ∃ g cap, e = .returned (.slice g L.length cap) ∧ RowE E w' g L ∧ L.length ≤ cap ∧ cap ≤ 9223372036854775807 ∧ Below w.heap.size w w'
theorem neededOfR_is (s : Sto) (a : StA) (w : World) (hI : StIn w s a) (y2 : s.files.length ≤ 500) : Calls Tryz.prog 38 #[.agg #[.int .i64 s.least, .int .i64 s.wait, .slice a.ta s.tiers.length a.tc, .slice a.fa s.files.length a.fc, .slice a.ca s.copies.length a.cc, .slice a.ha s.held.length a.hc, .slice a.ba s.bin.length a.bc]] w (RowPost St.eS w (St.neededL s)) := by
 obtain ⟨W1, hW1, hP, hz1, hB1⟩ := box w #[.int .i64 s.least, .int .i64 s.wait, .slice a.ta s.tiers.length a.tc, .slice a.fa s.files.length a.fc, .slice a.ca s.copies.length a.cc, .slice a.ha s.held.length a.hc, .slice a.ba s.bin.length a.bc] 28
 have HW1 := Lib.hid hW1
 have HI1 := Lib.hid (hI.keep hB1)
 have q0 : W1.cell? ⟨w.heap.size, 0, none⟩ = some (.int .i64 s.least) := (hP.cell 0).trans rfl
 have q1 : W1.cell? ⟨w.heap.size, 1, none⟩ = some (.int .i64 s.wait) := (hP.cell 1).trans rfl
 have q2 : W1.cell? ⟨w.heap.size, 2, none⟩ = some (.slice a.ta s.tiers.length a.tc) := (hP.cell 2).trans rfl
 have q3 : W1.cell? ⟨w.heap.size, 3, none⟩ = some (.slice a.fa s.files.length a.fc) := (hP.cell 3).trans rfl
 have q4 : W1.cell? ⟨w.heap.size, 4, none⟩ = some (.slice a.ca s.copies.length a.cc) := (hP.cell 4).trans rfl
 have q5 : W1.cell? ⟨w.heap.size, 5, none⟩ = some (.slice a.ha s.held.length a.hc) := (hP.cell 5).trans rfl
 have q6 : W1.cell? ⟨w.heap.size, 6, none⟩ = some (.slice a.ba s.bin.length a.bc) := (hP.cell 6).trans rfl
 have HP := Lib.hid hP; have HB1 := Lib.hid hB1
 clear hW1 hP
 have HNDA := Lib.hid (fun f V (hv : Below W1.heap.size W1 V) => neededR_is s a f V (HI1.out.keep hv))
 have HCL : Hid (∀ W, Below W1.heap.size W1 W → W.cell? ⟨w.heap.size, 0, none⟩ = some (.int .i64 s.least) ∧ W.cell? ⟨w.heap.size, 1, none⟩ = some (.int .i64 s.wait) ∧ W.cell? ⟨w.heap.size, 2, none⟩ = some (.slice a.ta s.tiers.length a.tc) ∧ W.cell? ⟨w.heap.size, 3, none⟩ = some (.slice a.fa s.files.length a.fc) ∧ W.cell? ⟨w.heap.size, 4, none⟩ = some (.slice a.ca s.copies.length a.cc) ∧ W.cell? ⟨w.heap.size, 5, none⟩ = some (.slice a.ha s.held.length a.hc) ∧ W.cell? ⟨w.heap.size, 6, none⟩ = some (.slice a.ba s.bin.length a.bc)) := Lib.hid fun W hb => (HP.out.keep hb).seven
 have hfl0 := hI.fl
 have HGL : Hid (St.neededL s = (s.files.filter (St.needed s)).map (·.dig)) := Lib.hid rfl
 have HS1 := Lib.hid hz1
 obtain ⟨nf, hnf⟩ : ∃ nf, s.files.length = nf := ⟨_, rfl⟩
 have HNF := Lib.hid hnf
 rw [hnf] at hfl0 y2 q3 HCL HW1 HNDA ⊢
 clear hI hz1 hnf
 go_enter Tryz.func38, Tryz.ntmps38
 go_wp2_with fail
 rw [HW1.out]
 go_wp2_with fail
 clear q0 q1 q2 q3 q4 q5 q6
 go_loopg [3, 9] nf (fun gk v i wr => ∃ j : Nat, j ≤ nf ∧ gk = nf - j ∧ i = .int .i64 j ∧ wr.ownsRow W1.heap.size 9 1 v (((s.files.take j).filter (St.needed s)).map (·.dig)).length (St.eS.flat (((s.files.take j).filter (St.needed s)).map (·.dig))) ∧ Below W1.heap.size W1 wr)
 case atStart => exact ⟨0, by omega, rfl, rfl, World.ownsRow_nil _ _ _ _, Below.refl _ _⟩
 case round =>
  obtain ⟨j, hj, rfl, rfl, hown, hB⟩ := hrel
  by_cases hlt : j < nf
  ·obtain ⟨x, hx⟩ : ∃ x, s.files[j]? = some x := ⟨_, List.getElem?_eq_getElem (by rw [HNF.out]; exact hlt)⟩
   obtain ⟨b, off, ha, hb, hcell⟩ := ((HI1.out.keep hB).fi) (by rw [HNF.out]; omega)
   have c0 : wr.cell? ⟨b, off + j * 4, none⟩ = some (.string x.dig) := hcell j x hx 0 (.string x.dig) rfl
   have c1 : wr.cell? ⟨b, off + j * 4 + 1, none⟩ = some (.int .i64 x.size) := hcell j x hx 1 (.int .i64 x.size) rfl
   have c2 : wr.cell? ⟨b, off + j * 4 + 2, none⟩ = some (.int .i64 x.kind) := hcell j x hx 2 (.int .i64 x.kind) rfl
   have c3 : wr.cell? ⟨b, off + j * 4 + 3, none⟩ = some (.string x.frm) := hcell j x hx 3 (.string x.frm) rfl
   clear hcell
   have hft := St.filtmap_take (p := St.needed s) (f := fun f : Fil => f.dig) hx
   have hfl : (((s.files.take j).filter (St.needed s)).map (·.dig)).length ≤ s.files.length := by rw [List.length_map]; exact St.filter_len (p := St.needed s) (L := s.files) j
   rw [HNF.out] at hfl
   obtain ⟨W3, hW3, hX3, hz3, hB3⟩ := box wr #[.string x.dig, .int .i64 x.size, .int .i64 x.kind, .string x.frm] 30
   have HW3 := Lib.hid hW3
   have HAL := Lib.hid (below_up hB hB3)
   have HX : Hid (∀ V, Below W3.heap.size W3 V → V.cell? ⟨wr.heap.size, 0, none⟩ = some (.string x.dig) ∧ V.cell? ⟨wr.heap.size, 1, none⟩ = some (.int .i64 x.size) ∧ V.cell? ⟨wr.heap.size, 2, none⟩ = some (.int .i64 x.kind) ∧ V.cell? ⟨wr.heap.size, 3, none⟩ = some (.string x.frm)) := Lib.hid fun V hv => (hX3.keep hv).four
   have HND := Lib.hid (HNDA.out x _ HAL.out)
   have hj0 : (0 : Int) ≤ (j : Int) := by omega
   have hj1 : (j : Int) < (nf : Int) := by omega
   have HFT := Lib.hid hft
   have hown3 := own_keepE hown hB3
   generalize (((s.files.take j).filter (St.needed s)).map (·.dig)) = G at *
   obtain ⟨nd, hnd⟩ : ∃ nd, St.needed s x = nd := ⟨_, rfl⟩
   rw [hnd] at HND HFT
   obtain ⟨FL, hFL⟩ : ∃ FL, St.eS.flat G = FL := ⟨_, rfl⟩
   obtain ⟨m, hm⟩ : ∃ m, G.length = m := ⟨_, rfl⟩
   have HFL : Hid (St.eS.flat (G ++ [x.dig]) = FL ++ [.string x.dig]) := Lib.hid (by rw [Enc.flat_snoc, hFL]; rfl)
   have HM : Hid ((G ++ [x.dig]).length = m + 1) := Lib.hid (by rw [List.length_append, hm]; rfl)
   have HMF := Lib.hid (And.intro hm hFL)
   have HOX := Lib.hid hown3
   rw [hFL, hm] at HOX
   rw [hm] at hfl
   obtain ⟨e0, e1, e2, e3⟩ := HX.out _ (Below.refl _ _)
   obtain ⟨n0, n1, n2, n3, n4, n5, n6⟩ := HCL.out _ HAL.out
   clear hx hB hX3 hz3 hB3 hW3 hft hown hown3 hm hFL hnd
   rw [ha] at HND HCL n3 ⊢
   go_upto_region 5 with fail
   rw [HW3.out]
   clear c0 c1 c2 c3
   cases nd
   ·go_wp2_with (go_at_call 116; (with_reducible refine HND.out.mono ?_); rintro e w6 ⟨rfl, hq⟩)
    rw [← ha]
    go_roundg (nf - (j + 1))
    case rel => exact ⟨j + 1, by omega, rfl, by go_num, by rw [HFT.out, if_neg (by decide), List.append_nil, HMF.out.1, HMF.out.2]; exact own_keepE HOX.out hq, below_up HAL.out hq⟩
    case measure => omega
   ·go_wp2_with (first
     | (go_at_call 116; (with_reducible refine HND.out.mono ?_); rintro e w6 ⟨rfl, hq⟩; obtain ⟨e0, e1, e2, e3⟩ := HX.out _ hq; have hown6 := own_keepE HOX.out hq; have hB6 := below_up HAL.out hq; have hs6 := hB6.size)
     | (at_builtin; refine list_appS rfl _ _ rfl _ _ m FL (by rfl) (by rfl) hown6 (by omega) (by omega) (by rfl) (by simp [Value.oneCell']) ?_; intro g8 cap8 w8 hown8 hgrow8; have hB8 := below_grownE (below_allocs hB6 _) (hown6.alloc _) hgrow8 (by simp; omega)))
    rw [← ha]
    go_roundg (nf - (j + 1))
    case rel => exact ⟨j + 1, by omega, rfl, by go_num, by rw [HFT.out, if_pos (by first | rfl | trivial), HFL.out, HM.out]; exact hown8, hB8⟩
    case measure => omega
  ·obtain rfl : nf = j := by omega
   rw [← HNF.out, List.take_length, ← HGL.out] at hown
   have HO := Lib.hid (OwnV.of_own hown)
   obtain ⟨g, cap, rfl⟩ := ownV_slice (OwnV.of_own hown)
   have HRE := Lib.hid (RowE.ofV (E := St.eS) (ca := cap) HO.out)
   clear hown
   go_wp2_with fail
   go_ret
   exact ⟨g, cap, rfl, HRE.out, HO.out.caps.1, HO.out.caps.2, below_up HB1.out hB⟩
theorem lacksR_is (s : Sto) (a : StA) (d : ByteArray) (w : World) (hI : StIn w s a) (y1 : s.tiers.length ≤ 8) (y3 : s.copies.length ≤ 4000) : Calls Tryz.prog 117 #[.agg #[.int .i64 s.least, .int .i64 s.wait, .slice a.ta s.tiers.length a.tc, .slice a.fa s.files.length a.fc, .slice a.ca s.copies.length a.cc, .slice a.ha s.held.length a.hc, .slice a.ba s.bin.length a.bc], .string d] w fun e w' => e = .returned (.bool (St.short s d)) ∧ Below w.heap.size w w' := by
 obtain ⟨W1, hW1, hP, hz1, hB1⟩ := box w #[.int .i64 s.least, .int .i64 s.wait, .slice a.ta s.tiers.length a.tc, .slice a.fa s.files.length a.fc, .slice a.ca s.copies.length a.cc, .slice a.ha s.held.length a.hc, .slice a.ba s.bin.length a.bc] 28
 have HW1 := Lib.hid hW1
 have HI1 := Lib.hid (hI.keep hB1)
 have q0 : W1.cell? ⟨w.heap.size, 0, none⟩ = some (.int .i64 s.least) := (hP.cell 0).trans rfl
 have q1 : W1.cell? ⟨w.heap.size, 1, none⟩ = some (.int .i64 s.wait) := (hP.cell 1).trans rfl
 have q2 : W1.cell? ⟨w.heap.size, 2, none⟩ = some (.slice a.ta s.tiers.length a.tc) := (hP.cell 2).trans rfl
 have q3 : W1.cell? ⟨w.heap.size, 3, none⟩ = some (.slice a.fa s.files.length a.fc) := (hP.cell 3).trans rfl
 have q4 : W1.cell? ⟨w.heap.size, 4, none⟩ = some (.slice a.ca s.copies.length a.cc) := (hP.cell 4).trans rfl
 have q5 : W1.cell? ⟨w.heap.size, 5, none⟩ = some (.slice a.ha s.held.length a.hc) := (hP.cell 5).trans rfl
 have q6 : W1.cell? ⟨w.heap.size, 6, none⟩ = some (.slice a.ba s.bin.length a.bc) := (hP.cell 6).trans rfl
 have HP := Lib.hid hP; have HB1 := Lib.hid hB1
 clear hW1 hP
 have HCL : Hid (∀ W, Below W1.heap.size W1 W → W.cell? ⟨w.heap.size, 0, none⟩ = some (.int .i64 s.least) ∧ W.cell? ⟨w.heap.size, 1, none⟩ = some (.int .i64 s.wait) ∧ W.cell? ⟨w.heap.size, 2, none⟩ = some (.slice a.ta s.tiers.length a.tc) ∧ W.cell? ⟨w.heap.size, 3, none⟩ = some (.slice a.fa s.files.length a.fc) ∧ W.cell? ⟨w.heap.size, 4, none⟩ = some (.slice a.ca s.copies.length a.cc) ∧ W.cell? ⟨w.heap.size, 5, none⟩ = some (.slice a.ha s.held.length a.hc) ∧ W.cell? ⟨w.heap.size, 6, none⟩ = some (.slice a.ba s.bin.length a.bc)) := Lib.hid fun W hb => (HP.out.keep hb).seven
 have HGO := Lib.hid (goodOf_is s a d W1 HI1.out y1 y3)
 unfold TirPost at HGO
 have HAT := Lib.hid (fun V (hv : Below W1.heap.size W1 V) => awayR_is s.tiers a.ta a.tc V (HI1.out.keep hv).ti (by omega))
 have hgl := St.goodL_len s d
 have hSH : St.short s d = (decide (((St.goodL s d).length : Int) < s.least) || (decide (St.awayN (St.goodL s d) = 0) && decide (0 < St.awayN s.tiers))) := rfl
 obtain ⟨mt, hmt⟩ : ∃ mt, St.awayN s.tiers = mt := ⟨_, rfl⟩
 obtain ⟨GL, hGL⟩ : ∃ GL, St.goodL s d = GL := ⟨_, rfl⟩
 rw [hGL] at HGO hSH hgl
 rw [hmt] at HAT hSH
 obtain ⟨mg, hmg⟩ : ∃ mg, GL.length = mg := ⟨_, rfl⟩
 have HMG := Lib.hid hmg
 rw [hmg] at HGO hSH hgl
 obtain ⟨ma, hma⟩ : ∃ ma, St.awayN GL = ma := ⟨_, rfl⟩
 have HMA := Lib.hid hma
 rw [hma] at hSH
 obtain ⟨lb, hlb⟩ : ∃ lb, decide ((mg : Int) < s.least) = lb := ⟨_, rfl⟩
 obtain ⟨zb, hzb⟩ : ∃ zb, decide (ma = 0) = zb := ⟨_, rfl⟩
 obtain ⟨tb, htb⟩ : ∃ tb, decide (0 < mt) = tb := ⟨_, rfl⟩
 obtain ⟨mi, hmi⟩ : ∃ mi : Int, (ma : Int) = mi := ⟨_, rfl⟩
 obtain ⟨ti, hti0⟩ : ∃ ti : Int, (mt : Int) = ti := ⟨_, rfl⟩
 have hzi : (mi == 0) = zb := by rw [← hzb, ← hmi]; cases ma <;> simp <;> omega
 have hti : decide ((0 : Int) < ti) = tb := by rw [← htb, ← hti0]; simp
 have HMI := Lib.hid hmi
 rw [hti0] at HAT
 rw [hlb, hzb, htb] at hSH
 rw [hSH]
 clear hI hz1 hSH hmt hGL hmg hma hzb htb hmi hti0 y3
 go_enter Tryz.func117, Tryz.ntmps117
 go_upto_region 1 with fail
 rw [HW1.out]
 go_upto_region 2 with (go_at_call 118; (with_reducible refine HGO.out.mono ?_); rintro e w3 ⟨g, cap, rfl, ho, hq⟩; have hv := hq)
 have HRE : Hid (RowE St.eT w3 g GL) := Lib.hid (RowE.ofV (E := St.eT) (ca := cap) (by rw [HMG.out]; exact ho))
 have HAG := Lib.hid (awayR_is GL g cap w3 HRE.out (by rw [HMG.out]; omega))
 rw [HMG.out, HMA.out, HMI.out] at HAG
 clear ho hq q0 q1 q2 q3 q4 q5 q6
 obtain ⟨q0, q1, q2, q3, q4, q5, q6⟩ := HCL.out _ hv
 have HVV := Lib.hid hv
 cases lb
 ·cases zb
  ·go_wp2_with (go_at_call 119; (with_reducible refine HAG.out.mono ?_); rintro e w4 ⟨rfl, hq⟩)
   go_ret
   exact ⟨ret_bool (by simp), below_up HB1.out (below_up HVV.out hq)⟩
  ·go_wp2_with (first
    | (go_at_call 119; (with_reducible refine HAG.out.mono ?_); rintro e w4 ⟨rfl, hq⟩; have hv4 := below_up HVV.out hq; obtain ⟨q0, q1, q2, q3, q4, q5, q6⟩ := HCL.out _ hv4)
    | (go_at_call 119; (with_reducible refine (HAT.out _ hv4).mono ?_); rintro e w5 ⟨rfl, hq5⟩))
   go_ret
   exact ⟨ret_bool (by simp [hti]), below_up HB1.out (below_up hv4 hq5)⟩
 ·go_wp2_with fail
  go_ret
  exact ⟨ret_bool (by simp), below_up HB1.out HVV.out⟩
theorem lostR_is (s : Sto) (a : StA) (w : World) (hI : StIn w s a) (r : St.Right s) : Calls Tryz.prog 41 #[.agg #[.int .i64 s.least, .int .i64 s.wait, .slice a.ta s.tiers.length a.tc, .slice a.fa s.files.length a.fc, .slice a.ca s.copies.length a.cc, .slice a.ha s.held.length a.hc, .slice a.ba s.bin.length a.bc]] w (RowPost St.eS w (St.lostL s)) := by
 obtain ⟨W1, hW1, hP, hz1, hB1⟩ := box w #[.int .i64 s.least, .int .i64 s.wait, .slice a.ta s.tiers.length a.tc, .slice a.fa s.files.length a.fc, .slice a.ca s.copies.length a.cc, .slice a.ha s.held.length a.hc, .slice a.ba s.bin.length a.bc] 28
 have HW1 := Lib.hid hW1
 have HI1 := Lib.hid (hI.keep hB1)
 have q0 : W1.cell? ⟨w.heap.size, 0, none⟩ = some (.int .i64 s.least) := (hP.cell 0).trans rfl
 have q1 : W1.cell? ⟨w.heap.size, 1, none⟩ = some (.int .i64 s.wait) := (hP.cell 1).trans rfl
 have q2 : W1.cell? ⟨w.heap.size, 2, none⟩ = some (.slice a.ta s.tiers.length a.tc) := (hP.cell 2).trans rfl
 have q3 : W1.cell? ⟨w.heap.size, 3, none⟩ = some (.slice a.fa s.files.length a.fc) := (hP.cell 3).trans rfl
 have q4 : W1.cell? ⟨w.heap.size, 4, none⟩ = some (.slice a.ca s.copies.length a.cc) := (hP.cell 4).trans rfl
 have q5 : W1.cell? ⟨w.heap.size, 5, none⟩ = some (.slice a.ha s.held.length a.hc) := (hP.cell 5).trans rfl
 have q6 : W1.cell? ⟨w.heap.size, 6, none⟩ = some (.slice a.ba s.bin.length a.bc) := (hP.cell 6).trans rfl
 have HP := Lib.hid hP; have HB1 := Lib.hid hB1
 clear hW1 hP
 have HCL : Hid (∀ W, Below W1.heap.size W1 W → W.cell? ⟨w.heap.size, 0, none⟩ = some (.int .i64 s.least) ∧ W.cell? ⟨w.heap.size, 1, none⟩ = some (.int .i64 s.wait) ∧ W.cell? ⟨w.heap.size, 2, none⟩ = some (.slice a.ta s.tiers.length a.tc) ∧ W.cell? ⟨w.heap.size, 3, none⟩ = some (.slice a.fa s.files.length a.fc) ∧ W.cell? ⟨w.heap.size, 4, none⟩ = some (.slice a.ca s.copies.length a.cc) ∧ W.cell? ⟨w.heap.size, 5, none⟩ = some (.slice a.ha s.held.length a.hc) ∧ W.cell? ⟨w.heap.size, 6, none⟩ = some (.slice a.ba s.bin.length a.bc)) := Lib.hid fun W hb => (HP.out.keep hb).seven
 obtain ⟨_, y1, y2, y3, y4, y5⟩ := St.sizes_iff.1 r.sizes
 have HNO := Lib.hid (neededOfR_is s a W1 HI1.out y2)
 unfold RowPost at HNO
 have hnl := St.neededL_len s
 have HGOA := Lib.hid (fun (d : ByteArray) V (hv : Below W1.heap.size W1 V) => goodOf_is s a d V (HI1.out.keep hv) y1 y3)
 unfold TirPost at HGOA
 have HLKA := Lib.hid (fun (d : ByteArray) V (hv : Below W1.heap.size W1 V) => lacksR_is s a d V (HI1.out.keep hv) y1 y3)
 have HGLN := Lib.hid (fun d => Nat.le_trans (St.goodL_len s d) y1)
 have HSC : Hid (St.shortC s = ((St.neededL s).filter (St.short s)).map (St.lackOf s)) := Lib.hid rfl
 have HSL : Hid (St.lostL s = (St.neededL s).filter (fun d => (St.goodL s d).length == 0)) := Lib.hid rfl
 obtain ⟨NL, hNL⟩ : ∃ NL, St.neededL s = NL := ⟨_, rfl⟩
 rw [hNL] at HNO hnl HSC HSL
 obtain ⟨n, hn⟩ : ∃ n, NL.length = n := ⟨_, rfl⟩
 have HNN := Lib.hid hn
 rw [hn] at HNO hnl
 have hn6 : n ≤ 1000000 := by omega
 have HS1 := Lib.hid hz1
 clear hI r hz1 y1 y2 y3 y4 y5 hNL hn hnl
 go_enter Tryz.func41, Tryz.ntmps41
 go_upto_region 1 with fail
 rw [HW1.out]
 go_wp2_with (go_at_call 38; (with_reducible refine HNO.out.mono ?_); rintro e w6 ⟨A, ca, rfl, hre, _, _, hq⟩)
 have HRE := Lib.hid hre
 have HV6 := Lib.hid hq
 clear hre hq q0 q1 q2 q3 q4 q5 q6
 go_loopg [3, 9] n (fun gk v i wr => ∃ j : Nat, j ≤ n ∧ gk = n - j ∧ i = .int .i64 j ∧ wr.ownsRow w6.heap.size 9 1 v ((NL.take j).filter (fun d => (St.goodL s d).length == 0)).length (St.eS.flat ((NL.take j).filter (fun d => (St.goodL s d).length == 0))) ∧ Below w6.heap.size w6 wr)
 case atStart => exact ⟨0, by omega, rfl, rfl, World.ownsRow_nil _ _ _ _, Below.refl _ _⟩
 case round =>
  obtain ⟨j, hj, rfl, rfl, hown, hB⟩ := hrel
  by_cases hlt : j < n
  ·obtain ⟨x, hx⟩ : ∃ x, NL[j]? = some x := ⟨_, List.getElem?_eq_getElem (by rw [HNN.out]; exact hlt)⟩
   obtain ⟨b, off, ha, hb, hcell⟩ := (HRE.out.keep hB) (by rw [HNN.out]; omega)
   have c0 : wr.cell? ⟨b, off + j, none⟩ = some (.string x) := by have := hcell j x hx 0 (.string x) rfl; rw [show off + j * St.eS.k + 0 = off + j by simp [St.eS]] at this; exact this
   have hft := St.filter_take (p := fun d => (St.goodL s d).length == 0) hx
   have hfl : ((NL.take j).filter (fun d => (St.goodL s d).length == 0)).length ≤ NL.length := St.filter_len j
   rw [HNN.out] at hfl
   have HGX := Lib.hid (HGOA.out x wr (below_up HV6.out hB))
   obtain ⟨m0, m1, m2, m3, m4, m5, m6⟩ := HCL.out _ (below_up HV6.out hB)
   have hj0 : (0 : Int) ≤ (j : Int) := by omega
   have hj1 : (j : Int) < (n : Int) := by omega
   have HFT := Lib.hid hft
   generalize ((NL.take j).filter (fun d => (St.goodL s d).length == 0)) = G at *
   obtain ⟨mg, hmg⟩ : ∃ mg, (St.goodL s x).length = mg := ⟨_, rfl⟩
   rw [hmg] at HGX HFT
   obtain ⟨zb, hzb⟩ : ∃ zb, (mg == 0) = zb := ⟨_, rfl⟩
   have hzi : ((mg : Int) == 0) = zb := by rw [← hzb]; cases mg <;> simp <;> omega
   rw [hzb] at HFT
   obtain ⟨FL, hFL⟩ : ∃ FL, St.eS.flat G = FL := ⟨_, rfl⟩
   obtain ⟨m, hm⟩ : ∃ m, G.length = m := ⟨_, rfl⟩
   have HFL : Hid (St.eS.flat (G ++ [x]) = FL ++ [.string x]) := Lib.hid (by rw [Enc.flat_snoc, hFL]; rfl)
   have HM : Hid ((G ++ [x]).length = m + 1) := Lib.hid (by rw [List.length_append, hm]; rfl)
   have HMF := Lib.hid (And.intro hm hFL)
   have HOX := Lib.hid hown
   rw [hFL, hm] at HOX
   rw [hm] at hfl
   have HBW := Lib.hid hB
   clear hx hft hcell hown hm hFL hmg hB
   rw [ha]
   cases zb
   ·go_wp2_with (go_at_call 118; (with_reducible refine HGX.out.mono ?_); rintro e w7 ⟨g7, c7, rfl, ho7, hq7⟩)
    rw [← ha]
    go_roundg (n - (j + 1))
    case rel => exact ⟨j + 1, by omega, rfl, by go_num, by rw [HFT.out, if_neg (by decide), List.append_nil, HMF.out.1, HMF.out.2]; exact own_keepE HOX.out hq7, below_up HBW.out hq7⟩
    case measure => omega
   ·go_wp2_with (first
     | (go_at_call 118; (with_reducible refine HGX.out.mono ?_); rintro e w7 ⟨g7, c7, rfl, ho7, hq7⟩; have hown7 := own_keepE HOX.out hq7; have hB7 := below_up HBW.out hq7; have hs7 := hB7.size)
     | (at_builtin; refine list_appS rfl _ _ rfl _ _ m FL (by rfl) (by rfl) hown7 (by omega) (by omega) (by rfl) (by simp [Value.oneCell']) ?_; intro g8 cap8 w8 hown8 hgrow8; have hB8 := below_grownE (below_allocs hB7 _) (hown7.alloc _) hgrow8 (by simp; omega)))
    rw [← ha]
    go_roundg (n - (j + 1))
    case rel => exact ⟨j + 1, by omega, rfl, by go_num, by rw [HFT.out, if_pos (by first | rfl | trivial), HFL.out, HM.out]; exact hown8, hB8⟩
    case measure => omega
  ·obtain rfl : n = j := by omega
   rw [← HNN.out, List.take_length, ← HSL.out] at hown
   have HO := Lib.hid (OwnV.of_own hown)
   obtain ⟨g, cap, rfl⟩ := ownV_slice (OwnV.of_own hown)
   have HRZ := Lib.hid (RowE.ofV (E := St.eS) (ca := cap) HO.out)
   clear hown
   go_wp2_with fail
   go_ret
   exact ⟨g, cap, rfl, HRZ.out, HO.out.caps.1, HO.out.caps.2, below_up HB1.out (below_up HV6.out hB)⟩
theorem shortR_is (s : Sto) (a : StA) (w : World) (hI : StIn w s a) (r : St.Right s) : Calls Tryz.prog 40 #[.agg #[.int .i64 s.least, .int .i64 s.wait, .slice a.ta s.tiers.length a.tc, .slice a.fa s.files.length a.fc, .slice a.ca s.copies.length a.cc, .slice a.ha s.held.length a.hc, .slice a.ba s.bin.length a.bc]] w (RowPost St.eL w (St.shortC s)) := by
 obtain ⟨W1, hW1, hP, hz1, hB1⟩ := box w #[.int .i64 s.least, .int .i64 s.wait, .slice a.ta s.tiers.length a.tc, .slice a.fa s.files.length a.fc, .slice a.ca s.copies.length a.cc, .slice a.ha s.held.length a.hc, .slice a.ba s.bin.length a.bc] 28
 have HW1 := Lib.hid hW1
 have HI1 := Lib.hid (hI.keep hB1)
 have q0 : W1.cell? ⟨w.heap.size, 0, none⟩ = some (.int .i64 s.least) := (hP.cell 0).trans rfl
 have q1 : W1.cell? ⟨w.heap.size, 1, none⟩ = some (.int .i64 s.wait) := (hP.cell 1).trans rfl
 have q2 : W1.cell? ⟨w.heap.size, 2, none⟩ = some (.slice a.ta s.tiers.length a.tc) := (hP.cell 2).trans rfl
 have q3 : W1.cell? ⟨w.heap.size, 3, none⟩ = some (.slice a.fa s.files.length a.fc) := (hP.cell 3).trans rfl
 have q4 : W1.cell? ⟨w.heap.size, 4, none⟩ = some (.slice a.ca s.copies.length a.cc) := (hP.cell 4).trans rfl
 have q5 : W1.cell? ⟨w.heap.size, 5, none⟩ = some (.slice a.ha s.held.length a.hc) := (hP.cell 5).trans rfl
 have q6 : W1.cell? ⟨w.heap.size, 6, none⟩ = some (.slice a.ba s.bin.length a.bc) := (hP.cell 6).trans rfl
 have HP := Lib.hid hP; have HB1 := Lib.hid hB1
 clear hW1 hP
 have HCL : Hid (∀ W, Below W1.heap.size W1 W → W.cell? ⟨w.heap.size, 0, none⟩ = some (.int .i64 s.least) ∧ W.cell? ⟨w.heap.size, 1, none⟩ = some (.int .i64 s.wait) ∧ W.cell? ⟨w.heap.size, 2, none⟩ = some (.slice a.ta s.tiers.length a.tc) ∧ W.cell? ⟨w.heap.size, 3, none⟩ = some (.slice a.fa s.files.length a.fc) ∧ W.cell? ⟨w.heap.size, 4, none⟩ = some (.slice a.ca s.copies.length a.cc) ∧ W.cell? ⟨w.heap.size, 5, none⟩ = some (.slice a.ha s.held.length a.hc) ∧ W.cell? ⟨w.heap.size, 6, none⟩ = some (.slice a.ba s.bin.length a.bc)) := Lib.hid fun W hb => (HP.out.keep hb).seven
 obtain ⟨_, y1, y2, y3, y4, y5⟩ := St.sizes_iff.1 r.sizes
 have HNO := Lib.hid (neededOfR_is s a W1 HI1.out y2)
 unfold RowPost at HNO
 have hnl := St.neededL_len s
 have HGOA := Lib.hid (fun (d : ByteArray) V (hv : Below W1.heap.size W1 V) => goodOf_is s a d V (HI1.out.keep hv) y1 y3)
 unfold TirPost at HGOA
 have HLKA := Lib.hid (fun (d : ByteArray) V (hv : Below W1.heap.size W1 V) => lacksR_is s a d V (HI1.out.keep hv) y1 y3)
 have HGLN := Lib.hid (fun d => Nat.le_trans (St.goodL_len s d) y1)
 have HSC : Hid (St.shortC s = ((St.neededL s).filter (St.short s)).map (St.lackOf s)) := Lib.hid rfl
 have HSL : Hid (St.lostL s = (St.neededL s).filter (fun d => (St.goodL s d).length == 0)) := Lib.hid rfl
 obtain ⟨NL, hNL⟩ : ∃ NL, St.neededL s = NL := ⟨_, rfl⟩
 rw [hNL] at HNO hnl HSC HSL
 obtain ⟨n, hn⟩ : ∃ n, NL.length = n := ⟨_, rfl⟩
 have HNN := Lib.hid hn
 rw [hn] at HNO hnl
 have hn6 : n ≤ 1000000 := by omega
 have HS1 := Lib.hid hz1
 clear hI r hz1 y1 y2 y3 y4 y5 hNL hn hnl
 go_enter Tryz.func40, Tryz.ntmps40
 go_upto_region 1 with fail
 rw [HW1.out]
 go_wp2_with (go_at_call 38; (with_reducible refine HNO.out.mono ?_); rintro e w6 ⟨A, ca, rfl, hre, _, _, hq⟩)
 have HRE := Lib.hid hre
 have HV6 := Lib.hid hq
 clear hre hq q0 q1 q2 q3 q4 q5 q6
 go_loopg [3, 9] n (fun gk v i wr => ∃ j : Nat, j ≤ n ∧ gk = n - j ∧ i = .int .i64 j ∧ wr.ownsRow w6.heap.size 70 3 v (((NL.take j).filter (St.short s)).map (St.lackOf s)).length (St.eL.flat (((NL.take j).filter (St.short s)).map (St.lackOf s))) ∧ Below w6.heap.size w6 wr)
 case atStart => exact ⟨0, by omega, rfl, rfl, World.ownsRow_nil _ _ _ _, Below.refl _ _⟩
 case round =>
  obtain ⟨j, hj, rfl, rfl, hown, hB⟩ := hrel
  by_cases hlt : j < n
  ·obtain ⟨x, hx⟩ : ∃ x, NL[j]? = some x := ⟨_, List.getElem?_eq_getElem (by rw [HNN.out]; exact hlt)⟩
   obtain ⟨b, off, ha, hb, hcell⟩ := (HRE.out.keep hB) (by rw [HNN.out]; omega)
   have c0 : wr.cell? ⟨b, off + j, none⟩ = some (.string x) := by have := hcell j x hx 0 (.string x) rfl; rw [show off + j * St.eS.k + 0 = off + j by simp [St.eS]] at this; exact this
   have hft := St.filtmap_take (p := St.short s) (f := St.lackOf s) hx
   have hfl : (((NL.take j).filter (St.short s)).map (St.lackOf s)).length ≤ NL.length := by rw [List.length_map]; exact St.filter_len j
   rw [HNN.out] at hfl
   have HLX := Lib.hid (HLKA.out x wr (below_up HV6.out hB))
   have HGX := Lib.hid (fun V (hv : Below wr.heap.size wr V) => HGOA.out x V (below_up (below_up HV6.out hB) hv))
   have HN : Hid (∀ V, Below wr.heap.size wr V → V.cell? ⟨w.heap.size, 0, none⟩ = some (.int .i64 s.least) ∧ V.cell? ⟨w.heap.size, 1, none⟩ = some (.int .i64 s.wait) ∧ V.cell? ⟨w.heap.size, 2, none⟩ = some (.slice a.ta s.tiers.length a.tc) ∧ V.cell? ⟨w.heap.size, 3, none⟩ = some (.slice a.fa s.files.length a.fc) ∧ V.cell? ⟨w.heap.size, 4, none⟩ = some (.slice a.ca s.copies.length a.cc) ∧ V.cell? ⟨w.heap.size, 5, none⟩ = some (.slice a.ha s.held.length a.hc) ∧ V.cell? ⟨w.heap.size, 6, none⟩ = some (.slice a.ba s.bin.length a.bc)) := Lib.hid fun V hv => HCL.out V (below_up (below_up HV6.out hB) hv)
   obtain ⟨m0, m1, m2, m3, m4, m5, m6⟩ := HN.out _ (Below.refl _ _)
   have hj0 : (0 : Int) ≤ (j : Int) := by omega
   have hj1 : (j : Int) < (n : Int) := by omega
   have hlo : St.lackOf s x = ⟨x, ((St.goodL s x).length : Nat), (St.awayN (St.goodL s x) : Nat)⟩ := rfl
   have hg8 := HGLN.out x
   have HFT := Lib.hid hft
   generalize (((NL.take j).filter (St.short s)).map (St.lackOf s)) = G at *
   obtain ⟨GL, hGL⟩ : ∃ GL, St.goodL s x = GL := ⟨_, rfl⟩
   rw [hGL] at HGX hlo hg8
   obtain ⟨mg, hmg⟩ : ∃ mg, GL.length = mg := ⟨_, rfl⟩
   have HMG := Lib.hid hmg
   rw [hmg] at HGX hlo hg8
   obtain ⟨ma, hma⟩ : ∃ ma, St.awayN GL = ma := ⟨_, rfl⟩
   have HMA := Lib.hid hma
   rw [hma] at hlo
   obtain ⟨sb, hsb⟩ : ∃ sb, St.short s x = sb := ⟨_, rfl⟩
   rw [hsb] at HLX HFT
   rw [hlo] at HFT
   obtain ⟨FL, hFL⟩ : ∃ FL, St.eL.flat G = FL := ⟨_, rfl⟩
   obtain ⟨m, hm⟩ : ∃ m, G.length = m := ⟨_, rfl⟩
   have HFL : Hid (St.eL.flat (G ++ [⟨x, (mg : Int), (ma : Int)⟩]) = FL ++ [.string x, .int .i64 (mg : Int), .int .i64 (ma : Int)]) := Lib.hid (by rw [Enc.flat_snoc, hFL]; rfl)
   have HM : Hid ((G ++ [(⟨x, (mg : Int), (ma : Int)⟩ : Lck)]).length = m + 1) := Lib.hid (by rw [List.length_append, hm]; rfl)
   have HMF := Lib.hid (And.intro hm hFL)
   have HOX := Lib.hid hown
   rw [hFL, hm] at HOX
   rw [hm] at hfl
   have HBW := Lib.hid hB
   clear hx hft hcell hown hm hFL hmg hma hB hlo hsb hGL
   rw [ha]
   cases sb
   ·go_wp2_with (go_at_call 117; (with_reducible refine HLX.out.mono ?_); rintro e w7 ⟨rfl, hq7⟩)
    rw [← ha]
    go_roundg (n - (j + 1))
    case rel => exact ⟨j + 1, by omega, rfl, by go_num, by rw [HFT.out, if_neg (by decide), List.append_nil, HMF.out.1, HMF.out.2]; exact own_keepE HOX.out hq7, below_up HBW.out hq7⟩
    case measure => omega
   ·go_upto_region 6 with (go_at_call 117; (with_reducible refine HLX.out.mono ?_); rintro e w7 ⟨rfl, hq7⟩)
    have hv := hq7.drew
    clear m0 m1 m2 m3 m4 m5 m6 c0
    obtain ⟨m0, m1, m2, m3, m4, m5, m6⟩ := HN.out _ hv
    go_region_held3 (fun w' => w'.cell? ⟨w.heap.size, 0, none⟩ = some (.int .i64 s.least) ∧ w'.cell? ⟨w.heap.size, 1, none⟩ = some (.int .i64 s.wait) ∧ w'.cell? ⟨w.heap.size, 2, none⟩ = some (.slice a.ta s.tiers.length a.tc) ∧ w'.cell? ⟨w.heap.size, 3, none⟩ = some (.slice a.fa s.files.length a.fc) ∧ w'.cell? ⟨w.heap.size, 4, none⟩ = some (.slice a.ca s.copies.length a.cc) ∧ w'.cell? ⟨w.heap.size, 5, none⟩ = some (.slice a.ha s.held.length a.hc) ∧ w'.cell? ⟨w.heap.size, 6, none⟩ = some (.slice a.ba s.bin.length a.bc))
     (first | (with_reducible exact ⟨m0, m1, m2, m3, m4, m5, m6⟩) | go_keep)
     (first
      | (go_at_call 118; (with_reducible refine (HGX.out _ hv).mono ?_); rintro e w8 ⟨g8, c8, rfl, ho8, hq8⟩; have hre8 : RowE St.eT w8 g8 GL := RowE.ofV (E := St.eT) (ca := c8) (by rw [HMG.out]; exact ho8); have HAG := Lib.hid (awayR_is GL g8 c8 w8 hre8 (by rw [HMG.out]; omega)); rw [HMG.out, HMA.out] at HAG; have hv := below_up hv hq8; clear ho8 hre8 hq8; obtain ⟨m0, m1, m2, m3, m4, m5, m6⟩ := HN.out _ hv)
      | (go_at_call 119; (with_reducible refine HAG.out.mono ?_); rintro e w9 ⟨rfl, hq9⟩; have hv := below_up hv hq9; obtain ⟨m0, m1, m2, m3, m4, m5, m6⟩ := HN.out _ hv; have hown9 := own_keepE HOX.out hv; have hB9 := below_up HBW.out hv; have hs9 := hB9.size)
      | (refine step_appL rfl _ _ rfl _ _ m FL (by rfl) (by rfl) hown9 (by omega) (by omega) (by rfl) (by simp [Value.oneCell']) ?_; intro ga capa wa howna hgrowa; have hBa := below_grownE (below_allocs hB9 _) (hown9.alloc _) hgrowa (by simp; omega); obtain ⟨m0, m1, m2, m3, m4, m5, m6⟩ := HCL.out _ (below_up HV6.out hBa))
      | fail)
    go_wp2_with fail
    rw [← ha]
    go_roundg (n - (j + 1))
    case rel => exact ⟨j + 1, by omega, rfl, by go_num, by rw [HFT.out, if_pos (by first | rfl | trivial), HFL.out, HM.out]; exact howna, hBa⟩
    case measure => omega
  ·obtain rfl : n = j := by omega
   rw [← HNN.out, List.take_length, ← HSC.out] at hown
   have HO := Lib.hid (OwnV.of_own hown)
   obtain ⟨g, cap, rfl⟩ := ownV_slice (OwnV.of_own hown)
   have HRZ := Lib.hid (RowE.ofV (E := St.eL) (ca := cap) HO.out)
   clear hown
   go_wp2_with fail
   go_ret
   exact ⟨g, cap, rfl, HRZ.out, HO.out.caps.1, HO.out.caps.2, below_up HB1.out (below_up HV6.out hB)⟩
end Go.Proofs.YthdiccdnggloiaaGreatDoor
