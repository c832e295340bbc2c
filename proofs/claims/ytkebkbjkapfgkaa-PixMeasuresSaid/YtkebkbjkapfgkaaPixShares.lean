/- shares: what a place of the smaller or greater side covers. -/
import Derived.Test.YtkebkbjkapfgkaaPixImg
import Derived.Test.YtkebkbjkapfgkaaPixScaleMath
import Derived.Test.YtkebkbjkapfgkaaOwn
namespace Go.Proofs.Ytkebkbjkapfgkaa
open Go.RowKit Go.Sort
set_option linter.unusedVariables false
theorem infoShare : (Try.prog.info? 126).map (fun i => (i.zero, i.size, i.bytes)) = some (some (.agg #[.int .i64 0, .int .i64 0]), 2, 16) := by kernel_rfl
/-- The cells of l shares. -/
def shareCells (A P : Nat → Nat) : Nat → List Value
  | 0 => []
  | l + 1 => shareCells A P l ++ [.int .i64 (A l), .int .i64 (P l)]
theorem shareCells_congr (A P A' P' : Nat → Nat) (l : Nat) (h : ∀ i, i < l → A i = A' i ∧ P i = P' i) : shareCells A P l = shareCells A' P' l := by
  induction l with
  | zero => rfl
  | succ l ih => rw [shareCells, shareCells, ih (fun i hi => h i (by omega)), (h l (by omega)).1, (h l (by omega)).2]
theorem shareCells_step (A P : Nat → Nat) (l k e : Nat) : shareCells A P l ++ [.int .i64 k, .int .i64 e] = shareCells (fun i => if i = l then k else A i) (fun i => if i = l then e else P i) (l + 1) := by
  rw [shareCells, if_pos rfl, if_pos rfl]
  congr 1
  exact shareCells_congr _ _ _ _ _ (fun i hi => by simp [show i ≠ l by omega])
/-- Behind shares: a list of shares in new memory, which covers the place. -/
def SharesPost (w : World) (inn out n : Nat) (e : Ending) (w' : World) : Prop :=
  ∃ (g l cap : Nat) (A P : Nat → Nat), e = .returned (.slice (some ⟨g, 0, none⟩) l cap) ∧ 0 < l ∧ l ≤ 64 ∧ l ≤ cap ∧ cap ≤ 9223372036854775807 ∧ Im.Cover out inn (inn * n) A P l inn ∧ w'.ownsRow w.heap.size 126 2 (.slice (some ⟨g, 0, none⟩) l cap) l (shareCells A P l) ∧ Below w.heap.size w w'
set_option maxRecDepth 100000 in
set_option maxHeartbeats 1000000 in
theorem shares_is (inn out n : Nat) (w : World) (hi : 1 ≤ inn ∧ inn ≤ 64) (ho : 1 ≤ out ∧ out ≤ 64) (hn : n < out) :
    Calls Try.prog 89 #[.int .i64 inn, .int .i64 out, .int .i64 n] w (SharesPost w inn out n) := by
  obtain ⟨i0, hi0, hz0, hz1, hz2⟩ := info_parts infoShare
  have HI0 := Lib.hid hi0; have HI1 := Lib.hid hz0; have HI2 := Lib.hid hz1; have HI3 := Lib.hid hz2
  clear hi0 hz0 hz1 hz2
  obtain ⟨a, ha⟩ : ∃ a, inn * n = a := ⟨_, rfl⟩
  obtain ⟨E, hE⟩ : ∃ E, inn * (n + 1) = E := ⟨_, rfl⟩
  have hEa : E = a + inn := by rw [← hE, Nat.mul_add, ha, Nat.mul_one]
  have hEo : E ≤ inn * out := by rw [← hE]; exact Nat.mul_le_mul_left inn hn
  have hio : inn * out ≤ 4096 := Nat.mul_le_mul hi.2 ho.2
  have ga : (inn : Int) * (n : Int) = (a : Int) := by rw [← ha]; simp
  have gE : (inn : Int) * ((n : Int) + 1) = (E : Int) := by rw [← hE]; simp
  have HEA := Lib.hid hEa
  have hE1 : a + inn ≤ E := by omega
  have hE2 : E ≤ a + inn := by omega
  rw [show SharesPost w inn out n = fun e w' => ∃ (g l cap : Nat) (A P : Nat → Nat), e = .returned (.slice (some ⟨g, 0, none⟩) l cap) ∧ 0 < l ∧ l ≤ 64 ∧ l ≤ cap ∧ cap ≤ 9223372036854775807 ∧ Im.Cover out inn a A P l inn ∧ w'.ownsRow w.heap.size 126 2 (.slice (some ⟨g, 0, none⟩) l cap) l (shareCells A P l) ∧ Below w.heap.size w w' from by unfold SharesPost; rw [ha]]
  clear ha hE hEa
  go_enter Try.func89, Try.ntmps89
  go_wp2_with fail
  go_loopg [7, 8] inn (fun gk v7 v8 wr => ∃ (l p part : Nat) (A P : Nat → Nat) (vv : Value), vv = v7 ∧ v8 = .int .i64 part ∧ gk = inn - p ∧ part ≤ a + p ∧ a + p ≤ part ∧ p ≤ inn ∧ l ≤ p ∧ (p = 0 ∨ 0 < l) ∧ Im.Cover out inn a A P l p ∧ wr.ownsRow w.heap.size 126 2 vv l (shareCells A P l) ∧ Below w.heap.size w wr)
  case atStart => exact ⟨0, 0, a, fun _ => 0, fun _ => 0, _, rfl, rfl, rfl, by omega, by omega, by omega, by omega, .inl rfl, Im.cover_none _ _ _ _ _, ⟨rfl, .inl ⟨rfl, rfl⟩⟩, Below.refl _ _⟩
  case round =>
    obtain ⟨l, p, part, A, P, vv, rfl, rfl, rfl, hp1, hp2, hp3, hl, hl0, hcov, hown, hB⟩ := hrel
    have HCOV := Lib.hid hcov; clear hcov
    by_cases hlt : p < inn
    · obtain ⟨k, hk⟩ : ∃ k, part / out = k := ⟨_, rfl⟩
      obtain ⟨m, hm⟩ : ∃ m, (k + 1) * out = m := ⟨_, rfl⟩
      have hkm : k * out ≤ part ∧ part < m := by rw [← hm, ← hk]; exact ⟨Nat.div_mul_le_self _ _, (Nat.div_lt_iff_lt_mul ho.1).1 (Nat.lt_succ_self _)⟩
      have hki : k < inn := by rw [← hk]; exact (Nat.div_lt_iff_lt_mul ho.1).2 (by omega)
      have hmb : m ≤ 4096 := by rw [← hm]; exact Nat.mul_le_mul (by omega : k + 1 ≤ 64) ho.2
      have gk : (part : Int) / (out : Int) = (k : Int) := by rw [← hk]; simp
      have gm : ((k : Int) + 1) * (out : Int) = (m : Int) := by rw [← hm]; simp
      have hk' : k = (a + p) / out := by rw [← hk]; congr 1; omega
      have hpe : a + p = part := by omega
      have HSTEP : Hid (∀ e, e ≤ 64 → part + e ≤ m → Im.Cover out inn a (fun i => if i = l then k else A i) (fun i => if i = l then e else P i) (l + 1) (p + e)) :=
        fun e h1 h2 => Im.cover_step HCOV.out hk' hki h1 (by rw [hpe, hm]; exact h2)
      clear hk hm hk' hpe HCOV
      have hBs := hB.size
      have hmx : l + 1 ≤ maxLen := by unfold maxLen; omega
      have hbz : (l + 1) * 16 ≤ 140737488355328 := by omega
      by_cases hme : m ≤ E
      · obtain ⟨e, he⟩ : ∃ e, m = part + e := ⟨m - part, by omega⟩
        have ge : (m : Int) - (part : Int) = (e : Int) := by omega
        have hmin : min (m : Int) (E : Int) = (m : Int) := by omega
        have hdec : decide ((E : Int) < (m : Int)) = false := by simp; omega
        have he1 : 1 ≤ e := by omega
        have he2 : p + e ≤ inn := by omega
        have HCV := Lib.hid (HSTEP.out e (by omega) (by omega))
        have hge1 : m ≤ part + e := by omega
        have hge2 : part + e ≤ m := by omega
        clear he HSTEP
        -- m: the end of the share
        have hownA : (wr.alloc (.cells #[.int .i64 k, .int .i64 e] 126)).ownsRow w.heap.size 126 2 vv l (shareCells A P l) := hown.alloc _
        have hBA := below_allocs hB (.cells #[.int .i64 k, .int .i64 e] 126)
        go_wp2_with (at_builtin; refine wpList_append_own2 _ rfl _ _ 122 rfl w.heap.size 126 i0 (.agg #[.int .i64 0, .int .i64 0]) 2 16 Try.underlying122 HI0.out HI1.out HI2.out HI3.out rfl (by decide) vv l (shareCells A P l) rfl hownA ⟨wr.heap.size, 0, none⟩ 1 1 [.int .i64 k, .int .i64 e] rfl (by decide) rfl (World.news_of_block (cs := #[.int .i64 k, .int .i64 e]) (t := 126) (fr := (0, 0)) (heap_alloc_new wr _)) (by simp [Value.oneCell']) hmx hbz hBA.size ?_; intro gg cap w7 hown7 hgrow7 hnew7)
        have hB8 := hBA.grown hgrow7 hBA.size (fun k e => by
          rcases hownA.2 with ⟨rfl, _⟩ | ⟨g', cap', cur, rfl, hg', _⟩
          · simp [Value.ownBlock] at e
          · simp [Value.ownBlock] at e; omega)
        rw [shareCells_step] at hown7
        go_roundg (inn - (p + e))
        case rel => exact ⟨l + 1, p + e, m, _, _, _, rfl, rfl, rfl, by omega, by omega, by omega, by omega, .inr (by omega), HCV.out, hown7, hB8⟩
        case measure => omega
      · obtain ⟨e, he⟩ : ∃ e, E = part + e := ⟨E - part, by omega⟩
        have ge : (E : Int) - (part : Int) = (e : Int) := by omega
        have hmin : min (m : Int) (E : Int) = (E : Int) := by omega
        have hdec : decide ((E : Int) < (m : Int)) = true := by simp; omega
        have he1 : 1 ≤ e := by omega
        have he2 : p + e ≤ inn := by omega
        have HCV := Lib.hid (HSTEP.out e (by omega) (by omega))
        have hge1 : E ≤ part + e := by omega
        have hge2 : part + e ≤ E := by omega
        clear he HSTEP
        -- E: the end of the share
        have hownA : (wr.alloc (.cells #[.int .i64 k, .int .i64 e] 126)).ownsRow w.heap.size 126 2 vv l (shareCells A P l) := hown.alloc _
        have hBA := below_allocs hB (.cells #[.int .i64 k, .int .i64 e] 126)
        go_wp2_with (at_builtin; refine wpList_append_own2 _ rfl _ _ 122 rfl w.heap.size 126 i0 (.agg #[.int .i64 0, .int .i64 0]) 2 16 Try.underlying122 HI0.out HI1.out HI2.out HI3.out rfl (by decide) vv l (shareCells A P l) rfl hownA ⟨wr.heap.size, 0, none⟩ 1 1 [.int .i64 k, .int .i64 e] rfl (by decide) rfl (World.news_of_block (cs := #[.int .i64 k, .int .i64 e]) (t := 126) (fr := (0, 0)) (heap_alloc_new wr _)) (by simp [Value.oneCell']) hmx hbz hBA.size ?_; intro gg cap w7 hown7 hgrow7 hnew7)
        have hB8 := hBA.grown hgrow7 hBA.size (fun k e => by
          rcases hownA.2 with ⟨rfl, _⟩ | ⟨g', cap', cur, rfl, hg', _⟩
          · simp [Value.ownBlock] at e
          · simp [Value.ownBlock] at e; omega)
        rw [shareCells_step] at hown7
        go_roundg (inn - (p + e))
        case rel => exact ⟨l + 1, p + e, E, _, _, _, rfl, rfl, rfl, by omega, by omega, by omega, by omega, .inr (by omega), HCV.out, hown7, hB8⟩
        case measure => omega
    · obtain rfl : inn = p := by omega
      have hl1 : 0 < l := by omega
      rcases hown.2 with ⟨_, h0⟩ | ⟨g, cap, cur, rfl, hg, hcell, hk, hm, _⟩
      · omega
      go_wp2_with fail
      go_ret
      exact ⟨g, l, cap, A, P, rfl, hl1, by omega, hk, by unfold maxLen at hm; omega, HCOV.out, hown, hB⟩
end Go.Proofs.Ytkebkbjkapfgkaa
