/- slices.Clone of a row of strings. -/
import Derived.Test.YthldlffkgafgaaaDoorSxText2
import Derived.Test.YthldlffkgafgaaaDoorTxRef
namespace Go.Proofs.YthldlffkgafgaaaDoor
open Go.RowKit Go.Sort Go.Shelf
set_option linter.unusedVariables false
set_option maxRecDepth 100000 in
set_option maxHeartbeats 1000000 in
theorem clone_strs (b : Nat) (xs : List (List UInt8)) (ca : Nat) (w : World) (hx : StrRow w b xs) (hn : 1 ≤ xs.length) (hn2 : xs.length ≤ 1000000) :
    Calls Tryd.prog 66 #[.slice (some ⟨b, 0, none⟩) xs.length ca] w fun e w' => ∃ g cap, e = .returned (.slice (some ⟨g, 0, none⟩) xs.length cap) ∧ w'.ownsRow w.heap.size 9 1 (.slice (some ⟨g, 0, none⟩) xs.length cap) xs.length (xs.map strV) ∧ Below w.heap.size w w' := by
  obtain ⟨hb, hc⟩ := hx
  obtain ⟨i0, hi0, hz0, hz1, hz2⟩ := info_parts infoStr
  have HI0 := Lib.hid hi0; have HI1 := Lib.hid hz0; have HI2 := Lib.hid hz1; have HI3 := Lib.hid hz2
  clear hi0 hz0 hz1 hz2
  have HC := Lib.hid hc; clear hc
  obtain ⟨n, hnn⟩ : ∃ n, xs.length = n := ⟨_, rfl⟩
  rw [hnn] at hn hn2 ⊢
  have HN := Lib.hid hnn; clear hnn
  go_enter Tryd.func66, Tryd.ntmps66
  have hmx : 0 + n ≤ maxLen := by unfold maxLen; omega
  have hbz : (0 + n) * 16 ≤ 140737488355328 := by omega
  have hnw : ∀ j u, (xs.map strV)[j]? = some u → (w.alloc (.cells #[] 9)).cell? ((⟨b, 0, none⟩ : Addr).add j) = some u := by
    intro j u hj
    have hjn : j < xs.length := by
      have := (List.getElem?_eq_some_iff.1 hj).1
      simpa using this
    have hu : u = strV (xs.getD j []) := by rw [List.getElem?_map, List.getElem?_eq_getElem hjn] at hj; rw [List.getD_eq_getElem?_getD, List.getElem?_eq_getElem hjn]; simpa using hj.symm
    rw [hu, show (⟨b, 0, none⟩ : Addr).add j = ⟨b, j, none⟩ from by unfold Addr.add; split <;> simp_all]
    exact ((below_allocs (Below.refl w.heap.size w) (.cells #[] 9)).cell (p := ⟨b, j, none⟩) hb).trans (HC.out j hjn)
  have h1c : ∀ u ∈ xs.map strV, u.oneCell' = true := by
    intro u hu
    obtain ⟨i, _, rfl⟩ := List.mem_map.1 hu
    rfl
  have hnl : (xs.map strV).length = n * 1 := by simp [HN.out]
  have hnil := fun (W : World) => Lib.run_eql_slice_nil (P := Tryd.prog) W 91 9 (some ⟨b, 0, none⟩) n ca 0 0 Tryd.underlying91
  have HNW := Lib.hid hnw; have H1C := Lib.hid h1c; have HNL := Lib.hid hnl; clear hnw h1c hnl
  go_wp2_with (at_builtin; refine wpList_append_grows _ rfl _ _ 91 rfl 9 i0 (.string ByteArray.empty) 1 16 Tryd.underlying91 HI0.out HI1.out HI2.out HI3.out rfl (by decide) (some ⟨w.heap.size, 0, none⟩) 0 0 [] rfl (fun h => by cases h) rfl (fun b hb j u hj => by simp at hj) ⟨b, 0, none⟩ n ca (xs.map strV) rfl HNL.out HNW.out H1C.out (by omega) hmx hbz ?_; intro v' w1 hown hgrow)
  rw [Nat.zero_add, List.nil_append] at hown
  rcases hown.2 with ⟨_, h0⟩ | ⟨g, cap, cur, rfl, hg, hcell, hk, hm, _⟩
  · omega
  have HOW := Lib.hid (ownsRow_down hown (show w.heap.size ≤ (w.alloc (.cells #[] 9)).heap.size by simp))
  have hB1 := (below_allocs (Below.refl w.heap.size w) (.cells #[] 9)).grown hgrow (by simp) (fun k e => by cases e)
  clear hown hgrow hcell
  go_wp2_with fail
  go_ret
  exact ⟨g, cap, rfl, HOW.out, hB1⟩
end Go.Proofs.YthldlffkgafgaaaDoor
namespace Go.Proofs.YthldlffkgafgaaaDoor
open Go.RowKit Go.Sort Go.Shelf
set_option linter.unusedVariables false
set_option maxRecDepth 100000 in
set_option maxHeartbeats 2000000 in
theorem spanFor_mom (F T : Int) (h : ¬ (Ev.mom F = true ∧ Ev.mom T = true)) (w : World) :
    Calls Tryd.prog 30 #[.agg #[.int .i64 F, .int .i64 T]] w fun e w' => e = .returned (.tuple #[.string ⟨#[]⟩, .int .i64 2]) ∧ Below w.heap.size w w' := by
  cases hF : Ev.mom F
  · have HMF := Lib.hid hF
    have HMT := Lib.hid hF
    clear hF h
    go_enter Tryd.func30, Tryd.ntmps30
    go_wp2_with (go_at_call 37; first | (with_reducible refine (moment_is _ _ HMF.out _).mono ?_; rintro e w2 ⟨rfl, rfl⟩) | (with_reducible refine (moment_is _ _ HMT.out _).mono ?_; rintro e w2 ⟨rfl, rfl⟩))
    go_ret2
    exact ⟨rfl, below_allocs (Below.refl _ _) _⟩
  · have hT : Ev.mom T = false := by rw [← Bool.not_eq_true]; exact fun e => h ⟨hF, e⟩
    have HMF := Lib.hid hF
    have HMT := Lib.hid hT
    clear hF hT h
    go_enter Tryd.func30, Tryd.ntmps30
    go_wp2_with (go_at_call 37; first | (with_reducible refine (moment_is _ _ HMF.out _).mono ?_; rintro e w2 ⟨rfl, rfl⟩) | (with_reducible refine (moment_is _ _ HMT.out _).mono ?_; rintro e w2 ⟨rfl, rfl⟩))
    go_ret2
    exact ⟨rfl, below_allocs (Below.refl _ _) _⟩
set_option maxRecDepth 100000 in
set_option maxHeartbeats 2000000 in
theorem spanFor_order (F T : Int) (hF : Ev.mom F = true) (hT : Ev.mom T = true) (h : T < F) (w : World) :
    Calls Tryd.prog 30 #[.agg #[.int .i64 F, .int .i64 T]] w fun e w' => e = .returned (.tuple #[.string ⟨#[]⟩, .int .i64 5]) ∧ Below w.heap.size w w' := by
  have HMF := Lib.hid hF
  have HMT := Lib.hid hT
  clear hF hT
  go_enter Tryd.func30, Tryd.ntmps30
  go_wp2_with (go_at_call 37; first | (with_reducible refine (moment_is _ _ HMF.out _).mono ?_; rintro e w2 ⟨rfl, rfl⟩) | (with_reducible refine (moment_is _ _ HMT.out _).mono ?_; rintro e w2 ⟨rfl, rfl⟩))
  go_ret2
  exact ⟨rfl, below_allocs (Below.refl _ _) _⟩
theorem Tx.Y4_u1 (d : Sp.D3) : Tx.Y4 d.1 = Tx.mk (Sx.u1 d) := rfl
theorem toldU_is (d : Sp.D3) (hv : Sp.vld d = true) (W : World) : Calls Tryd.prog 40 #[.int .i64 d.1] W fun e w' => e = .returned (.string (Tx.mk (Sx.u1 d))) ∧ Below W.heap.size W w' := by
  have := (Sx.vld_bd hv).1
  exact toldY_is d.1 (by omega) (by omega) W
namespace Sx
theorem candR_two (u1 u2 u3 v1 v2 v3 : List UInt8) (k j : Nat) (hk : k < 3) (hj : j < 3) : (candR u1 u2 u3 v1 v2 v3)[3 + 3 * k + j]? = some (U u1 u2 u3 k ++ dots ++ U v1 v2 v3 j) := by
  match k, hk, j, hj with
  | 0, _, 0, _ => rfl
  | 0, _, 1, _ => rfl
  | 0, _, 2, _ => rfl
  | 1, _, 0, _ => rfl
  | 1, _, 1, _ => rfl
  | 1, _, 2, _ => rfl
  | 2, _, 0, _ => rfl
  | 2, _, 1, _ => rfl
  | 2, _, 2, _ => rfl
theorem candR_len {u1 u2 u3 v1 v2 v3 : List UInt8} (h1 : u1.length ≤ 10) (h2 : u2.length ≤ 10) (h3 : u3.length ≤ 10) (g1 : v1.length ≤ 10) (g2 : v2.length ≤ 10) (g3 : v3.length ≤ 10) : ∀ t ∈ candR u1 u2 u3 v1 v2 v3, t.length ≤ 22 :=
  fun t ht => candP_len h1 h2 h3 g1 g2 g3 t ((cand_mem _ _ _ _ _ _ _).2 ht)
end Sx
end Go.Proofs.YthldlffkgafgaaaDoor
