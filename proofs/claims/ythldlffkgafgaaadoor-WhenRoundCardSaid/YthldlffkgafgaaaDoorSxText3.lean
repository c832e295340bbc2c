/- slices.Clone of a row of strings. -/
import Derived.Test.YthldlffkgafgaaaDoorSxText2
import Derived.Test.YthldlffkgafgaaaDoorTxRef
namespace Go.Proofs.YthldlffkgafgaaaDoor
open Go.RowKit Go.Sort Go.Shelf
set_option linter.unusedVariables false
set_option maxRecDepth 100000 in
set_option maxHeartbeats 1000000 in
theorem clone_strs (b : Nat) (xs : List (List UInt8)) (ca : Nat) (w : World) (hx : StrRow w b xs) (hn : 1 ≤ xs.length) (hn2 : xs.length ≤ 1000000) :
    Calls Tryd.prog 66 #[.slice (some ⟨b, 0, none⟩) xs.length ca] w fun e w' => ∃ g cap, e = .returned (.slice (some ⟨g, 0, none⟩) xs.length cap) ∧ w'.ownsRow w.heap.size 9 1 (.slice (some ⟨g, 0, none⟩) xs.length cap) xs.length (xs.map strV) ∧ Below w.heap.size w w' := by
  obtain ⟨hb, hc⟩ := hx
  obtain ⟨i0, hi0, hz0, hz1, hz2⟩ := info_parts infoStr
  have HI0 := Lib.hid hi0; have HI1 := Lib.hid hz0; have HI2 := Lib.hid hz1; have HI3 := Lib.hid hz2
  clear hi0 hz0 hz1 hz2
  have HC := Lib.hid hc; clear hc
  obtain ⟨n, hnn⟩ : ∃ n, xs.length = n := ⟨_, rfl⟩
  rw [hnn] at hn hn2 ⊢
  have HN := Lib.hid hnn; clear hnn
  go_enter Tryd.func66, Tryd.ntmps66
  have hmx : 0 + n ≤ maxLen := by unfold maxLen; omega
  have hbz : (0 + n) * 16 ≤ 140737488355328 := by omega
  have hnw : ∀ j u, (xs.map strV)[j]? = some u → (w.alloc (.cells #[] 9)).cell? ((⟨b, 0, none⟩ : Addr).add j) = some u := by
    intro j u hj
    have hjn : j < xs.length := by
      have := (List.getElem?_eq_some_iff.1 hj).1
      simpa using this
    have hu : u = strV (xs.getD j []) := by rw [List.getElem?_map, List.getElem?_eq_getElem hjn] at hj; rw [List.getD_eq_getElem?_getD, List.getElem?_eq_getElem hjn]; simpa using hj.symm
    rw [hu, show (⟨b, 0, none⟩ : Addr).add j = ⟨b, j, none⟩ from by unfold Addr.add; split <;> simp_all]
    exact ((below_allocs (Below.refl w.heap.size w) (.cells #[] 9)).cell (p := ⟨b, j, none⟩) hb).trans (HC.out j hjn)
  have h1c : ∀ u ∈ xs.map strV, u.oneCell' = true := by
    intro u hu
    obtain ⟨i, _, rfl⟩ := List.mem_map.1 hu
    rfl
  have hnl : (xs.map strV).length = n * 1 := by simp [HN.out]
  have hnil := fun (W : World) => Lib.run_eql_slice_nil (P := Tryd.prog) W 91 9 (some ⟨b, 0, none⟩) n ca 0 0 Tryd.underlying91
  have HNW := Lib.hid hnw; have H1C := Lib.hid h1c; have HNL := Lib.hid hnl; clear hnw h1c hnl
  go_wp2_with (at_builtin; refine wpList_append_grows _ rfl _ _ 91 rfl 9 i0 (.string ByteArray.empty) 1 16 Tryd.underlying91 HI0.out HI1.out HI2.out HI3.out rfl (by decide) (some ⟨w.heap.size, 0, none⟩) 0 0 [] rfl (fun h => by cases h) rfl (fun b hb j u hj => by simp at hj) ⟨b, 0, none⟩ n ca (xs.map strV) rfl HNL.out HNW.out H1C.out (by omega) hmx hbz ?_; intro v' w1 hown hgrow)
  rw [Nat.zero_add, List.nil_append] at hown
  rcases hown.2 with ⟨_, h0⟩ | ⟨g, cap, cur, rfl, hg, hcell, hk, hm, _⟩
  · omega
  have HOW := Lib.hid (ownsRow_down hown (show w.heap.size ≤ (w.alloc (.cells #[] 9)).heap.size by simp))
  have hB1 := (below_allocs (Below.refl w.heap.size w) (.cells #[] 9)).grown hgrow (by simp) (fun k e => by cases e)
  clear hown hgrow hcell
  go_wp2_with fail
  go_ret
  exact ⟨g, cap, rfl, HOW.out, hB1⟩
end Go.Proofs.YthldlffkgafgaaaDoor
namespace Go.Proofs.YthldlffkgafgaaaDoor
open Go.RowKit Go.Sort Go.Shelf
set_option linter.unusedVariables false
set_option maxRecDepth 100000 in
set_option maxHeartbeats 2000000 in
theorem spanFor_mom (F T : Int) (h : ¬ (Ev.mom F = true ∧ Ev.mom T = true)) (w : World) :
    Calls Tryd.prog 30 #[.agg #[.int .i64 F, .int .i64 T]] w fun e w' => e = .returned (.tuple #[.string ⟨#[]⟩, .int .i64 2]) ∧ Below w.heap.size w w' := by
  cases hF : Ev.mom F
  · have HMF := Lib.hid hF
    have HMT := Lib.hid hF
    clear hF h
    go_enter Tryd.func30, Tryd.ntmps30
    go_wp2_with (go_at_call 37; first | (with_reducible refine (moment_is _ _ HMF.out _).mono ?_; rintro e w2 ⟨rfl, rfl⟩) | (with_reducible refine (moment_is _ _ HMT.out _).mono ?_; rintro e w2 ⟨rfl, rfl⟩))
    go_ret2
    exact ⟨rfl, below_allocs (Below.refl _ _) _⟩
  · have hT : Ev.mom T = false := by rw [← Bool.not_eq_true]; exact fun e => h ⟨hF, e⟩
    have HMF := Lib.hid hF
    have HMT := Lib.hid hT
    clear hF hT h
    go_enter Tryd.func30, Tryd.ntmps30
    go_wp2_with (go_at_call 37; first | (with_reducible refine (moment_is _ _ HMF.out _).mono ?_; rintro e w2 ⟨rfl, rfl⟩) | (with_reducible refine (moment_is _ _ HMT.out _).mono ?_; rintro e w2 ⟨rfl, rfl⟩))
    go_ret2
    exact ⟨rfl, below_allocs (Below.refl _ _) _⟩
set_option maxRecDepth 100000 in
set_option maxHeartbeats 2000000 in
theorem spanFor_order (F T : Int) (hF : Ev.mom F = true) (hT : Ev.mom T = true) (h : T < F) (w : World) :
    Calls Tryd.prog 30 #[.agg #[.int .i64 F, .int .i64 T]] w fun e w' => e = .returned (.tuple #[.string ⟨#[]⟩, .int .i64 5]) ∧ Below w.heap.size w w' := by
  have HMF := Lib.hid hF
  have HMT := Lib.hid hT
  clear hF hT
  go_enter Tryd.func30, Tryd.ntmps30
  go_wp2_with (go_at_call 37; first | (with_reducible refine (moment_is _ _ HMF.out _).mono ?_; rintro e w2 ⟨rfl, rfl⟩) | (with_reducible refine (moment_is _ _ HMT.out _).mono ?_; rintro e w2 ⟨rfl, rfl⟩))
  go_ret2
  exact ⟨rfl, below_allocs (Below.refl _ _) _⟩
theorem Tx.Y4_u1 (d : Sp.D3) : Tx.Y4 d.1 = Tx.mk (Sx.u1 d) := rfl
theorem toldU_is (d : Sp.D3) (hv : Sp.vld d = true) (W : World) : Calls Tryd.prog 40 #[.int .i64 d.1] W fun e w' => e = .returned (.string (Tx.mk (Sx.u1 d))) ∧ Below W.heap.size W w' := by
  have := (Sx.vld_bd hv).1
  exact toldY_is d.1 (by omega) (by omega) W
namespace Sx
theorem candR_two (u1 u2 u3 v1 v2 v3 : List UInt8) (k j : Nat) (hk : k < 3) (hj : j < 3) : (candR u1 u2 u3 v1 v2 v3)[3 + 3 * k + j]? = some (U u1 u2 u3 k ++ dots ++ U v1 v2 v3 j) := by
  match k, hk, j, hj with
  | 0, _, 0, _ => rfl
  | 0, _, 1, _ => rfl
  | 0, _, 2, _ => rfl
  | 1, _, 0, _ => rfl
  | 1, _, 1, _ => rfl
  | 1, _, 2, _ => rfl
  | 2, _, 0, _ => rfl
  | 2, _, 1, _ => rfl
  | 2, _, 2, _ => rfl
theorem candR_len {u1 u2 u3 v1 v2 v3 : List UInt8} (h1 : u1.length ≤ 10) (h2 : u2.length ≤ 10) (h3 : u3.length ≤ 10) (g1 : v1.length ≤ 10) (g2 : v2.length ≤ 10) (g3 : v3.length ≤ 10) : ∀ t ∈ candR u1 u2 u3 v1 v2 v3, t.length ≤ 22 :=
  fun t ht => candP_len h1 h2 h3 g1 g2 g3 t ((cand_mem _ _ _ _ _ _ _).2 ht)
end Sx
end Go.Proofs.YthldlffkgafgaaaDoor
namespace Go.Proofs.YthldlffkgafgaaaDoor
open Go.RowKit Go.Sort Go.Shelf
set_option linter.unusedVariables false
theorem StrRow.setOther {w : World} {g b i : Nat} {v : Value} {ss : List (List UInt8)} (h : StrRow w g ss) (hne : g ≠ b) : StrRow (w.setCell ⟨b, i, none⟩ v) g ss :=
  ⟨by simpa using h.1, fun j hj => cell_set_other hne (h.2 j hj)⟩
theorem StrRow.alloc {w : World} {g : Nat} {ss : List (List UInt8)} (h : StrRow w g ss) (o : Obj) : StrRow (w.alloc o) g ss := h.keep (below_allocs (Below.refl _ _) o)
theorem StrRow.newSet (w : World) (p : Addr) (v : Value) (a b c : List UInt8) (t : TypeId) : StrRow ((w.setCell p v).alloc (.cells #[.string (Tx.mk a), .string (Tx.mk b), .string (Tx.mk c)] t)) w.heap.size [a, b, c] := by
  have := StrRow.new3 (w.setCell p v) a b c t
  have e : (w.setCell p v).heap.size = w.heap.size := by simp
  rw [e] at this
  exact this
/-- The contracts and the sums that tell a date's three texts. -/
structure SfD (y m d : Int) (u1 u2 u3 c1 c2 : List UInt8) (pm pd : ByteArray) : Prop where
  date : ∀ W, Calls Tryd.prog 39 #[.int .i64 (Cal.num y m d)] W fun e w' => e = .returned (.agg #[.int .i64 y, .int .i64 m, .int .i64 d]) ∧ Below W.heap.size W w'
  told : ∀ W, Calls Tryd.prog 40 #[.int .i64 y] W fun e w' => e = .returned (.string (Tx.mk u1)) ∧ Below W.heap.size W w'
  cm : ∀ W, Calls Tryd.prog 41 #[.int .i64 m, .int .i64 2] W fun e w' => e = .returned (.string pm) ∧ Below W.heap.size W w'
  cd : ∀ W, Calls Tryd.prog 41 #[.int .i64 d, .int .i64 2] W fun e w' => e = .returned (.string pd) ∧ Below W.heap.size W w'
  e1 : Tx.mk u1 ++ ByteArray.mk #[45] = Tx.mk c1
  e2 : Tx.mk c1 ++ pm = Tx.mk u2
  e3 : Tx.mk u2 ++ ByteArray.mk #[45] = Tx.mk c2
  e4 : Tx.mk c2 ++ pd = Tx.mk u3
  z1 : (Tx.mk u1).size = 4
  z2 : (Tx.mk u2).size = 7
  z3 : (Tx.mk u3).size = 10
  y1 : (Tx.mk c1).size = 5
  y2 : (Tx.mk c2).size = 8
  x1 : pm.size = 2
  x2 : pd.size = 2
theorem sf_of (y m d : Int) (hv : Sp.vld (y, m, d) = true) : ∃ (c1 c2 : List UInt8) (pm pd : ByteArray), SfD y m d (Sx.u1 (y, m, d)) (Sx.u2 (y, m, d)) (Sx.u3 (y, m, d)) c1 c2 pm pd := by
  obtain ⟨hy, hm, hd⟩ := Sx.vld_bd hv
  obtain ⟨l1, l2, l3⟩ := Sx.lens hv
  have hm' : 1 ≤ m ∧ m ≤ 12 := hm
  have hd' : 1 ≤ d ∧ d ≤ 31 := hd
  have hnb := Sp.num_bd hv
  refine ⟨Sx.u1 (y, m, d) ++ [45], Sx.u2 (y, m, d) ++ [45], Tx.P2 m, Tx.P2 d, ?_, toldU_is (y, m, d) hv, fun W => toldPad_is m (by omega) (by omega) W, fun W => toldPad_is d (by omega) (by omega) W, Tx.mk_append _ [45], ?_, Tx.mk_append _ [45], ?_, by rw [Tx.mk_size, l1], by rw [Tx.mk_size, l2], by rw [Tx.mk_size, l3], by rw [Tx.mk_size, List.length_append, l1]; rfl, by rw [Tx.mk_size, List.length_append, l2]; rfl, Tx.P2_size (by omega) (by omega), Tx.P2_size (by omega) (by omega)⟩
  · intro W
    refine (dateFor_any (Cal.num y m d) W hnb.1 hnb.2).mono ?_
    rintro e w' ⟨y', m', d', hv', hn, rfl, hB⟩
    obtain ⟨rfl, rfl, rfl⟩ := Cal.num_inj _ _ _ _ _ _ hv' hv hn
    exact ⟨rfl, hB⟩
  · exact Tx.mk_append _ _
  · exact Tx.mk_append _ _
namespace Sx
/-- Nothing is told. -/
def errOf (s : List UInt8) : Int := if s = [] then 1 else 0
theorem errOf_no {s : List UInt8} (h : ¬ s = []) : errOf s = 0 := by unfold errOf; rw [if_neg h]
end Sx
def SfRel (w : World) (F T : Int) (Ua Ub : List (List UInt8)) (i : Nat) (wr : World) : Prop :=
  Below w.heap.size w wr ∧ Blk wr w.heap.size #[.int .i64 F, .int .i64 T] 45 ∧ Blk wr (w.heap.size + 1 + 1) #[.int .i64 F, .int .i64 T] 3 ∧ w.heap.size + 2 < wr.heap.size ∧
  ((i = 0 ∧ Blk wr (w.heap.size + 1) #[.slice none 0 0, .slice none 0 0] 93) ∨
   (i = 1 ∧ ∃ g, w.heap.size + 2 < g ∧ StrRow wr g Ua ∧ Blk wr (w.heap.size + 1) #[.slice (some ⟨g, 0, none⟩) 3 3, .slice none 0 0] 93) ∨
   (i = 2 ∧ ∃ g h, (w.heap.size + 2 < g ∧ w.heap.size + 2 < h) ∧ StrRow wr g Ua ∧ StrRow wr h Ub ∧ Blk wr (w.heap.size + 1) #[.slice (some ⟨g, 0, none⟩) 3 3, .slice (some ⟨h, 0, none⟩) 3 3] 93))
set_option maxRecDepth 100000 in
set_option maxHeartbeats 8000000 in
theorem spanFor_ok (F T ya ma da yb mb db : Int) (a1 a2 a3 b1 b2 b3 ca1 ca2 cb1 cb2 : List UInt8) (pma pda pmb pdb : ByteArray) (P : List (List UInt8)) (hF : Ev.mom F = true) (hT : Ev.mom T = true) (h : F ≤ T)
    (hna : Cal.num ya ma da = F / 86400) (hnb : Cal.num yb mb db = T / 86400) (hA : SfD ya ma da a1 a2 a3 ca1 ca2 pma pda) (hBd : SfD yb mb db b1 b2 b3 cb1 cb2 pmb pdb)
    (hP0 : P.take 3 = [a1, a2, a3]) (hP2 : ∀ k j, k < 3 → j < 3 → P[3 + 3 * k + j]? = some (Sx.U a1 a2 a3 k ++ Sx.dots ++ Sx.U b1 b2 b3 j)) (hP12 : P.length = 12) (hPL : ∀ s ∈ P, s.length ≤ 22) (w : World) (hmx : Mx w) :
    Calls Tryd.prog 30 #[.agg #[.int .i64 F, .int .i64 T]] w fun e w' => e = .returned (.tuple #[.string (Tx.mk (Sx.best (Sx.ok F T) P)), .int .i64 (Sx.errOf (Sx.best (Sx.ok F T) P))]) ∧ Below w.heap.size w w' := by
  have hf := (Ev.mom_iff _).1 hF
  have htt := (Ev.mom_iff _).1 hT
  have HMF := Lib.hid hF
  have HMT := Lib.hid hT
  have hlt : ¬ T < F := by omega
  have HPA := Lib.hid hA.date
  have HPB := Lib.hid hBd.date
  rw [hna] at HPA
  rw [hnb] at HPB
  have HAA := Lib.hid hA
  have HBB := Lib.hid hBd
  have HP0 := Lib.hid hP0
  have HP2 := Lib.hid hP2
  have HP12 := Lib.hid hP12
  have HPL := Lib.hid hPL
  have HM := Lib.hid hmx
  obtain ⟨i0, hi, hz0, hz1', hz2⟩ := info_parts infoStr
  have HI0 := Lib.hid hi; have HI1 := Lib.hid hz0; have HI2 := Lib.hid hz1'; have HI3 := Lib.hid hz2
  clear hF hT hna hnb hA hBd hP0 hP2 hP12 hPL hmx hi hz0 hz1' hz2
  obtain ⟨W1, hW1, hX1, hz1, hB1⟩ := box w #[.int .i64 F, .int .i64 T] 45
  obtain ⟨W2, hW2, hE2, hz2, hB2⟩ := box W1 #[.slice none 0 0, .slice none 0 0] 93
  obtain ⟨W3, hW3, hN3, hz3, hB3⟩ := box W2 #[.int .i64 F, .int .i64 T] 3
  have HW1 := Lib.hid hW1
  have HW2 := Lib.hid hW2
  have HW3 := Lib.hid hW3
  obtain ⟨c0, c1⟩ := hX1.two
  have hX3 := (hX1.keep hB2).keep hB3
  have hE3 := hE2.keep hB3
  have hBr := below_up (below_up hB1 hB2) hB3
  rw [hz1] at hE3
  rw [hz2, hz1] at hN3
  have hz4 : W3.heap.size = w.heap.size + 3 := by omega
  clear hW1 hW2 hW3 hX1 hE2
  go_enter Tryd.func30, Tryd.ntmps30
  go_wp2_with fail
  rw [HW1.out]
  go_wp2_with (go_at_call 37; first | (with_reducible refine (moment_is _ _ HMF.out _).mono ?_; rintro e w2 ⟨rfl, rfl⟩) | (with_reducible refine (moment_is _ _ HMT.out _).mono ?_; rintro e w2 ⟨rfl, rfl⟩))
  rw [HW2.out, HW3.out]
  go_loopg [41] 2 (fun gk i wr => ∃ k : Nat, k ≤ 2 ∧ gk = 2 - k ∧ i = .int .i64 k ∧ SfRel w F T [a1, a2, a3] [b1, b2, b3] k wr)
  case atStart => exact ⟨0, by omega, rfl, rfl, hBr, hX3, hN3, by omega, .inl ⟨rfl, hE3⟩⟩
  case round =>
    obtain ⟨k, hk, rfl, rfl, hB, hX, hN, hsz, hcase⟩ := hrel
    rcases hcase with ⟨rfl, hE⟩ | ⟨rfl, g, hg, hUA, hE⟩ | ⟨rfl, g, hh, ⟨hg, hgh⟩, hUA, hUB, hE⟩
    · obtain ⟨n0, n1⟩ := hN.two
      have hk0 : ((0 : Nat) : Int) = 0 := rfl
      -- one date: HPA its contract, HAA its texts, ya ma da its numbers
      go_wp2_with fail
      go_at_call 39
      refine (HPA.out _).mono ?_
      rintro e w3 ⟨rfl, hB8⟩
      have hE := hE.keep hB8
      have hX := hX.keep hB8
      have hN := hN.keep hB8
      have hB := below_up hB hB8
      have hsz := Nat.lt_of_lt_of_le hsz hB8.size
      (try have hUA := hUA.keep hB8)
      clear hB8
      obtain ⟨W4, hW4, hD, hz4, hB4⟩ := box w3 #[.int .i64 ya, .int .i64 ma, .int .i64 da] 56
      have HW4 := Lib.hid hW4
      have hE := hE.keep hB4
      have hX := hX.keep hB4
      have hN := hN.keep hB4
      have hB := below_up hB hB4
      have hsz := Nat.lt_of_lt_of_le hsz hB4.size
      (try have hUA := hUA.keep hB4)
      clear hB4 hW4 n0 n1
      obtain ⟨d0, d1, d2⟩ := hD.three
      obtain ⟨q0, q1⟩ := hE.two
      have qf := hE.free
      have e1 := HAA.out.e1
      have e2 := HAA.out.e2
      have e3 := HAA.out.e3
      have e4 := HAA.out.e4
      have zz1 := HAA.out.z1
      have zz2 := HAA.out.z2
      have zz3 := HAA.out.z3
      have yy1 := HAA.out.y1
      have yy2 := HAA.out.y2
      have xx1 := HAA.out.x1
      have xx2 := HAA.out.x2
      go_wp2_with fail
      rw [HW4.out]
      go_wp2_with (first
        | (go_at_call 40; (with_reducible refine (HAA.out.told _).mono ?_); rintro e w5 ⟨rfl, hB8⟩; have hE := hE.keep hB8; have hD := hD.keep hB8; have hX := hX.keep hB8; have hN := hN.keep hB8; have hB := below_up hB hB8; obtain ⟨d0, d1, d2⟩ := hD.three; obtain ⟨q0, q1⟩ := hE.two; have qf := hE.free; have hsz := Nat.lt_of_lt_of_le hsz hB8.size; have hs1 := Nat.lt_of_succ_lt hsz; (try have hUA := hUA.keep hB8))
        | (go_at_call 41; (with_reducible first | (refine (HAA.out.cm _).mono ?_) | (refine (HAA.out.cd _).mono ?_)); rintro e w5 ⟨rfl, hB8⟩; have hE := hE.keep hB8; have hD := hD.keep hB8; have hX := hX.keep hB8; have hN := hN.keep hB8; have hB := below_up hB hB8; obtain ⟨d0, d1, d2⟩ := hD.three; obtain ⟨q0, q1⟩ := hE.two; have qf := hE.free; have hsz := Nat.lt_of_lt_of_le hsz hB8.size; have hs1 := Nat.lt_of_succ_lt hsz; (try have hUA := hUA.keep hB8)))
      clear e1 e2 e3 e4 zz1 zz2 zz3 yy1 yy2 xx1 xx2
      go_roundg (2 - 1)
      case rel => exact ⟨1, by omega, rfl, rfl, (hB.setCell (by simp) _).alloc (by simp; omega) _, (hX.setOther (by simp) _).alloc _, (hN.setOther (by simp) _).alloc _, by simp; omega, .inr (.inl ⟨rfl, w5.heap.size, by omega, StrRow.newSet _ _ _ _ _ _ _, by have := (hE.set 0 (.slice (some ⟨w5.heap.size, 0, none⟩) 3 3)).alloc (.cells #[.string (Tx.mk a1), .string (Tx.mk a2), .string (Tx.mk a3)] 9); simpa using this⟩)⟩
      case measure => omega
    · obtain ⟨n0, n1⟩ := hN.two
      have hk0 : ((1 : Nat) : Int) = 1 := rfl
      -- one date: HPB its contract, HBB its texts, yb mb db its numbers
      go_wp2_with fail
      go_at_call 39
      refine (HPB.out _).mono ?_
      rintro e w3 ⟨rfl, hB8⟩
      have hE := hE.keep hB8
      have hX := hX.keep hB8
      have hN := hN.keep hB8
      have hB := below_up hB hB8
      have hsz := Nat.lt_of_lt_of_le hsz hB8.size
      (try have hUA := hUA.keep hB8)
      clear hB8
      obtain ⟨W4, hW4, hD, hz4, hB4⟩ := box w3 #[.int .i64 yb, .int .i64 mb, .int .i64 db] 56
      have HW4 := Lib.hid hW4
      have hE := hE.keep hB4
      have hX := hX.keep hB4
      have hN := hN.keep hB4
      have hB := below_up hB hB4
      have hsz := Nat.lt_of_lt_of_le hsz hB4.size
      (try have hUA := hUA.keep hB4)
      clear hB4 hW4 n0 n1
      obtain ⟨d0, d1, d2⟩ := hD.three
      obtain ⟨q0, q1⟩ := hE.two
      have qf := hE.free
      have e1 := HBB.out.e1
      have e2 := HBB.out.e2
      have e3 := HBB.out.e3
      have e4 := HBB.out.e4
      have zz1 := HBB.out.z1
      have zz2 := HBB.out.z2
      have zz3 := HBB.out.z3
      have yy1 := HBB.out.y1
      have yy2 := HBB.out.y2
      have xx1 := HBB.out.x1
      have xx2 := HBB.out.x2
      go_wp2_with fail
      rw [HW4.out]
      go_wp2_with (first
        | (go_at_call 40; (with_reducible refine (HBB.out.told _).mono ?_); rintro e w5 ⟨rfl, hB8⟩; have hE := hE.keep hB8; have hD := hD.keep hB8; have hX := hX.keep hB8; have hN := hN.keep hB8; have hB := below_up hB hB8; obtain ⟨d0, d1, d2⟩ := hD.three; obtain ⟨q0, q1⟩ := hE.two; have qf := hE.free; have hsz := Nat.lt_of_lt_of_le hsz hB8.size; have hs1 := Nat.lt_of_succ_lt hsz; (try have hUA := hUA.keep hB8))
        | (go_at_call 41; (with_reducible first | (refine (HBB.out.cm _).mono ?_) | (refine (HBB.out.cd _).mono ?_)); rintro e w5 ⟨rfl, hB8⟩; have hE := hE.keep hB8; have hD := hD.keep hB8; have hX := hX.keep hB8; have hN := hN.keep hB8; have hB := below_up hB hB8; obtain ⟨d0, d1, d2⟩ := hD.three; obtain ⟨q0, q1⟩ := hE.two; have qf := hE.free; have hsz := Nat.lt_of_lt_of_le hsz hB8.size; have hs1 := Nat.lt_of_succ_lt hsz; (try have hUA := hUA.keep hB8)))
      clear e1 e2 e3 e4 zz1 zz2 zz3 yy1 yy2 xx1 xx2
      go_roundg (2 - 2)
      case rel => exact ⟨2, by omega, rfl, rfl, (hB.setCell (by simp) _).alloc (by simp; omega) _, (hX.setOther (by simp) _).alloc _, (hN.setOther (by simp) _).alloc _, by simp; omega, .inr (.inr ⟨rfl, g, w5.heap.size, ⟨hg, by omega⟩, (hUA.setOther (by omega)).alloc _, StrRow.newSet _ _ _ _ _ _ _, by have := (hE.set 1 (.slice (some ⟨w5.heap.size, 0, none⟩) 3 3)).alloc (.cells #[.string (Tx.mk b1), .string (Tx.mk b2), .string (Tx.mk b3)] 9); simpa using this⟩)⟩
      case measure => omega
    · obtain ⟨q0, q1⟩ := hE.two
      have hk0 : ((2 : Nat) : Int) = 2 := rfl
      clear hN
      generalize wr = w6 at *
      have HCL := Lib.hid (clone_strs g [a1, a2, a3] 3 w6 hUA (by simp) (by simp))
      have HM6 := Lib.hid (HM.out.below hB)
      go_wp2_with fail
      go_at_call 66
      refine HCL.out.mono ?_
      rintro e w7 ⟨gC, capC, rfl, hown7, hB7⟩
      obtain ⟨q0, q1⟩ := (hE.keep hB7).two
      go_wp2_with fail
      go_loopg [10, 76] 3 (fun gk v i wr => ∃ k : Nat, k ≤ 3 ∧ gk = 3 - k ∧ i = .int .i64 k ∧ Sx.Row w6.heap.size w6 P (3 + 3 * k) v wr)
      case atStart => exact ⟨0, by omega, rfl, rfl, by rw [show 3 + 3 * 0 = 3 from rfl, HP0.out]; exact hown7, hB7⟩
      case round =>
        obtain ⟨k, hk, rfl, rfl, hrow⟩ := hrel
        obtain ⟨hown, hBq⟩ := hrow
        by_cases hk3 : k < 3
        · have hkI : (k : Int) < 3 := by omega
          have hcellA : wr.cell? ⟨g, k, none⟩ = some (.string (Tx.mk (Sx.U a1 a2 a3 k))) := (hUA.keep hBq).2 k (by simpa using hk3)
          have hUl : (Sx.U a1 a2 a3 k).length ≤ 10 := Sx.U_len (by have := HAA.out.z1; rw [Tx.mk_size] at this; omega) (by have := HAA.out.z2; rw [Tx.mk_size] at this; omega) (by have := HAA.out.z3; rw [Tx.mk_size] at this; omega) k
          obtain ⟨uk, huk⟩ : ∃ uk, Sx.U a1 a2 a3 k = uk := ⟨_, rfl⟩
          rw [huk] at hcellA hUl
          have HUK := Lib.hid huk
          clear huk
          obtain ⟨r0, r1⟩ := (hE.keep hBq).two
          go_wp2_with fail
          go_loopg [10, 83] 3 (fun gk v i wq => ∃ j : Nat, j ≤ 3 ∧ gk = 3 - j ∧ i = .int .i64 j ∧ Sx.Row w6.heap.size w6 P (3 + 3 * k + j) v wq)
          case atStart => exact ⟨0, by omega, rfl, rfl, hown, hBq⟩
          case round =>
            obtain ⟨j, hj, rfl, rfl, hrow⟩ := hrel
            obtain ⟨hown, hBq⟩ := hrow
            by_cases hj3 : j < 3
            · have hjI : (j : Int) < 3 := by omega
              have HO2 := Lib.hid (HP2.out k j hk3 hj3)
              rw [HUK.out] at HO2
              have hcellB : wr.cell? ⟨hh, j, none⟩ = some (.string (Tx.mk (Sx.U b1 b2 b3 j))) := (hUB.keep hBq).2 j (by simpa using hj3)
              have hVl : (Sx.U b1 b2 b3 j).length ≤ 10 := Sx.U_len (by have := HBB.out.z1; rw [Tx.mk_size] at this; omega) (by have := HBB.out.z2; rw [Tx.mk_size] at this; omega) (by have := HBB.out.z3; rw [Tx.mk_size] at this; omega) j
              generalize Sx.U b1 b2 b3 j = vj at *
              have hukz := Tx.mk_size uk
              have hvjz := Tx.mk_size vj
              have hcat1 : Tx.mk uk ++ ByteArray.mk #[46, 46] = Tx.mk (uk ++ Sx.dots) := Tx.mk_append uk Sx.dots
              have hcat2 : Tx.mk (uk ++ Sx.dots) ++ Tx.mk vj = Tx.mk (uk ++ Sx.dots ++ vj) := Tx.mk_append _ vj
              have hcz := Tx.mk_size (uk ++ Sx.dots)
              rw [List.length_append, show Sx.dots.length = 2 from rfl] at hcz
              have hBsz' := hBq.size
              generalize uk ++ Sx.dots ++ vj = cc at *
              generalize uk ++ Sx.dots = cd at *
              go_wp2_with (first
                | (at_builtin; refine wpList_append_own2 _ rfl _ _ 91 rfl w6.heap.size 9 i0 (.string ByteArray.empty) 1 16 Tryd.underlying91 HI0.out HI1.out HI2.out HI3.out rfl (by decide) _ _ _ rfl (hown.alloc _) ⟨wr.heap.size, 0, none⟩ 1 1 [strV cc] rfl (by decide) rfl (cell_one_new _ _ _) (by simp [strV, Value.oneCell']) (by unfold maxLen; omega) (by omega) (by simp; have := hBq.size; omega) ?_; intro g9 cap9 w9 hown9 hgrow9 hnew9))
              have hB9 := (below_allocs hBq (.cells #[.string (Tx.mk cc)] 9)).grown hgrow9 (by simp; omega) (fun q e => (hown.lt q e).1)
              have hown9' : w9.ownsRow w6.heap.size 9 1 (.slice (some ⟨g9, 0, none⟩) (3 + 3 * k + (j + 1)) cap9) (3 + 3 * k + (j + 1)) ((P.take (3 + 3 * k + (j + 1))).map strV) := by
                rw [show 3 + 3 * k + (j + 1) = (3 + 3 * k + j) + 1 by omega, Sx.take_snoc HO2.out]; exact hown9
              clear hown9 hgrow9 hnew9 hown hcellB hcat1 hcat2 hcz
              go_roundg (3 - (j + 1))
              case rel => exact ⟨j + 1, by omega, rfl, by go_num, hown9', hB9⟩
              case measure => omega
            · obtain rfl : j = 3 := by omega
              clear hcellA r0 r1
              go_wp2_with fail
              go_roundg (3 - (k + 1))
              case rel => exact ⟨k + 1, by omega, rfl, by go_num, hown, hBq⟩
              case measure => omega
        · obtain rfl : k = 3 := by omega
          rw [show 3 + 3 * 3 = 12 from rfl, List.take_of_length_le (by rw [HP12.out]; exact Nat.le_refl _)] at hown
          rcases hown.2 with ⟨_, h0⟩ | ⟨gA, capA, cur, rfl, hbg, hrest⟩
          · omega
          have hAR := StrRow.of_own hown
          have hXA := hX.keep hBq
          have HMA := Lib.hid (HM6.out.below hBq)
          have hBA := below_up hB hBq
          clear hown hrest hbg hBq hB hown7 hB7 q0 q1 hUA hUB hE hX
          generalize wr = wA at *
          go_wp2_with fail
          go_loopg [15, 98] 12 (fun gk v i wr => ∃ j : Nat, j ≤ 12 ∧ gk = 12 - j ∧ i = .int .i64 j ∧ v = .string (Tx.mk (Sx.best (Sx.ok F T) (P.take j))) ∧ Below wA.heap.size wA wr)
          case atStart => exact ⟨0, by omega, rfl, rfl, rfl, Below.refl _ _⟩
          case round =>
            obtain ⟨j, hj, rfl, rfl, rfl, hB⟩ := hrel
            by_cases hj3 : j < 12
            · have hjI : (j : Int) < 12 := by omega
              obtain ⟨s, hs⟩ : ∃ s, P[j]? = some s := ⟨_, List.getElem?_eq_getElem (by rw [HP12.out]; exact hj3)⟩
              have hsl : s.length ≤ 22 := HPL.out s (List.mem_of_getElem? hs)
              have hcell' : wr.cell? ⟨gA, j, none⟩ = some (.string (Tx.mk s)) := by
                have := (hAR.keep hB).2 j (by rw [HP12.out]; exact hj3)
                rwa [List.getD_eq_getElem?_getD, hs] at this
              have HBT := Lib.hid (Sx.best_take (ok := Sx.ok F T) hs)
              have HSP := Lib.hid (spanOf_is s (by omega) wr (HMA.out.below hB))
              have hssz := Tx.mk_size s
              generalize Sx.best (Sx.ok F T) (P.take j) = b at *
              have hbsz := Tx.mk_size b
              obtain ⟨x0, x1⟩ := (hXA.keep hB).two
              clear hs
              by_cases hok : Sp.span s = (F, T, 0)
              · rw [hok] at HSP
                by_cases hb0 : b = []
                · subst hb0
                  have HST := Lib.hid (Sx.step_nil hok)
                  clear hok
                  go_wp2_with (go_at_call 28; refine HSP.out.mono ?_; rintro e w8 ⟨rfl, hB8⟩; have hB8' := below_up hB hB8; obtain ⟨y0, y1⟩ := ((hXA.keep hB).keep hB8).two; have hx8 := ((hXA.keep hB).keep hB8).lt)
                  go_roundg (12 - (j + 1))
                  case rel => exact ⟨j + 1, by omega, rfl, by go_num, by rw [HBT.out, HST.out], below_allocs hB8' _⟩
                  case measure => omega
                · have hbe : b.isEmpty = false := by cases b with | nil => exact absurd rfl hb0 | cons => rfl
                  have hbq : (b == []) = false := by simpa using hb0
                  by_cases hl1 : s.length < b.length
                  · have HST := Lib.hid (Sx.step_lt (b := b) hok ((Sx.lt_iff s b).2 (.inl hl1)))
                    clear hok
                    go_wp2_with (go_at_call 28; refine HSP.out.mono ?_; rintro e w8 ⟨rfl, hB8⟩; have hB8' := below_up hB hB8; obtain ⟨y0, y1⟩ := ((hXA.keep hB).keep hB8).two; have hx8 := ((hXA.keep hB).keep hB8).lt)
                    go_roundg (12 - (j + 1))
                    case rel => exact ⟨j + 1, by omega, rfl, by go_num, by rw [HBT.out, HST.out], below_allocs hB8' _⟩
                    case measure => omega
                  · by_cases hl2 : s.length = b.length
                    · have hle : ((s.length : Int) == (b.length : Int)) = true := by simp; omega
                      cases hbl : Op.bytesLess s b
                      · have HST := Lib.hid (Sx.step_ge (F := F) (T := T) hb0 (show Sx.lt s b = false by rw [← Bool.not_eq_true, Sx.lt_iff, hbl]; simp; omega))
                        clear hok
                        have HL2 := Lib.hid hl2
                        clear hl2
                        go_wp2_with (go_at_call 28; refine HSP.out.mono ?_; rintro e w8 ⟨rfl, hB8⟩; have hB8' := below_up hB hB8; obtain ⟨y0, y1⟩ := ((hXA.keep hB).keep hB8).two; have hx8 := ((hXA.keep hB).keep hB8).lt)
                        go_roundg (12 - (j + 1))
                        case rel => exact ⟨j + 1, by omega, rfl, by go_num, by rw [HBT.out, HST.out], below_allocs hB8' _⟩
                        case measure => omega
                      · have HST := Lib.hid (Sx.step_lt (b := b) hok ((Sx.lt_iff s b).2 (.inr ⟨hl2, hbl⟩)))
                        clear hok
                        have HL2 := Lib.hid hl2
                        clear hl2
                        go_wp2_with (go_at_call 28; refine HSP.out.mono ?_; rintro e w8 ⟨rfl, hB8⟩; have hB8' := below_up hB hB8; obtain ⟨y0, y1⟩ := ((hXA.keep hB).keep hB8).two; have hx8 := ((hXA.keep hB).keep hB8).lt)
                        go_roundg (12 - (j + 1))
                        case rel => exact ⟨j + 1, by omega, rfl, by go_num, by rw [HBT.out, HST.out], below_allocs hB8' _⟩
                        case measure => omega
                    · have hle : ((s.length : Int) == (b.length : Int)) = false := by simp; omega
                      have HST := Lib.hid (Sx.step_ge (F := F) (T := T) hb0 (show Sx.lt s b = false by rw [← Bool.not_eq_true, Sx.lt_iff]; intro h; rcases h with h | h; exact hl1 h; exact hl2 h.1))
                      clear hok
                      go_wp2_with (go_at_call 28; refine HSP.out.mono ?_; rintro e w8 ⟨rfl, hB8⟩; have hB8' := below_up hB hB8; obtain ⟨y0, y1⟩ := ((hXA.keep hB).keep hB8).two; have hx8 := ((hXA.keep hB).keep hB8).lt)
                      go_roundg (12 - (j + 1))
                      case rel => exact ⟨j + 1, by omega, rfl, by go_num, by rw [HBT.out, HST.out], below_allocs hB8' _⟩
                      case measure => omega
              · have HST := Lib.hid (Sx.step_no (b := b) hok)
                obtain ⟨f, t, e, hr⟩ : ∃ f t e, Sp.span s = (f, t, e) := ⟨_, _, _, rfl⟩
                rw [hr] at HSP hok
                clear hr
                by_cases he : e = 0
                · subst he
                  by_cases hf' : f = F
                  · subst hf'
                    have htn : ¬ t = T := fun e => hok (by rw [e])
                    clear hok
                    go_wp2_with (go_at_call 28; refine HSP.out.mono ?_; rintro e w8 ⟨rfl, hB8⟩; have hB8' := below_up hB hB8; obtain ⟨y0, y1⟩ := ((hXA.keep hB).keep hB8).two; have hx8 := ((hXA.keep hB).keep hB8).lt)
                    go_roundg (12 - (j + 1))
                    case rel => exact ⟨j + 1, by omega, rfl, by go_num, by rw [HBT.out, HST.out], below_allocs hB8' _⟩
                    case measure => omega
                  · clear hok
                    go_wp2_with (go_at_call 28; refine HSP.out.mono ?_; rintro e w8 ⟨rfl, hB8⟩; have hB8' := below_up hB hB8; obtain ⟨y0, y1⟩ := ((hXA.keep hB).keep hB8).two; have hx8 := ((hXA.keep hB).keep hB8).lt)
                    go_roundg (12 - (j + 1))
                    case rel => exact ⟨j + 1, by omega, rfl, by go_num, by rw [HBT.out, HST.out], below_allocs hB8' _⟩
                    case measure => omega
                · clear hok
                  go_wp2_with (go_at_call 28; refine HSP.out.mono ?_; rintro e w8 ⟨rfl, hB8⟩; have hB8' := below_up hB hB8; obtain ⟨y0, y1⟩ := ((hXA.keep hB).keep hB8).two; have hx8 := ((hXA.keep hB).keep hB8).lt)
                  go_roundg (12 - (j + 1))
                  case rel => exact ⟨j + 1, by omega, rfl, by go_num, by rw [HBT.out, HST.out], below_allocs hB8' _⟩
                  case measure => omega
            · obtain rfl : j = 12 := by omega
              rw [List.take_of_length_le (by rw [HP12.out]; exact Nat.le_refl _)]
              obtain ⟨b, hbb⟩ : ∃ b, Sx.best (Sx.ok F T) P = b := ⟨_, rfl⟩
              rw [hbb]
              have HBB2 := Lib.hid hbb
              clear hbb
              by_cases hb0 : b = []
              · subst hb0
                go_wp2_with fail
                go_ret2
                exact ⟨by rw [HBB2.out]; rfl, below_up hBA hB⟩
              · have hbe : b.isEmpty = false := by cases b with | nil => exact absurd rfl hb0 | cons => rfl
                have hbq : (b == []) = false := by simpa using hb0
                have HBN := Lib.hid hb0
                go_wp2_with fail
                go_ret2
                exact ⟨by rw [HBB2.out, Sx.errOf_no HBN.out]; rfl, below_up hBA hB⟩
end Go.Proofs.YthldlffkgafgaaaDoor
