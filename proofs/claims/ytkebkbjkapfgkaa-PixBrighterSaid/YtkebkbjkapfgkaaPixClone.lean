/- slices.Clone of bytes. -/
import Derived.Test.YtkebkbjkapfgkaaPixImg
import Derived.ArgAppend
import Derived.Test.YtkebkbjkapfgkaaOwn
namespace Go.Proofs.Ytkebkbjkapfgkaa
open Go.RowKit Go.Sort
set_option linter.unusedVariables false
set_option maxRecDepth 100000 in
set_option maxHeartbeats 1000000 in
theorem clone_is (b off n ca : Nat) (px : Nat → Int) (w : World) (hb : b < w.heap.size) (hc : ∀ i, i < n → w.cell? ⟨b, off + i, none⟩ = some (.int .u8 (px i))) (hn : 1 ≤ n) (hn2 : n ≤ 12288) :
    Calls Try.prog 39 #[.slice (some ⟨b, off, none⟩) n ca] w fun e w' => ∃ g cap, e = .returned (.slice (some ⟨g, 0, none⟩) n cap) ∧ n ≤ cap ∧ cap ≤ maxLen ∧ w'.ownsRow w.heap.size 5 1 (.slice (some ⟨g, 0, none⟩) n cap) n (bytes n px) ∧ Below w.heap.size w w' := by
  obtain ⟨i0, hi0, hz0, hz1, hz2⟩ := info_parts infoByte2
  have HI0 := Lib.hid hi0; have HI1 := Lib.hid hz0; have HI2 := Lib.hid hz1; have HI3 := Lib.hid hz2
  clear hi0 hz0 hz1 hz2
  have HC := Lib.hid hc; clear hc
  go_enter Try.func39, Try.ntmps39
  have hmx : 0 + n ≤ maxLen := by unfold maxLen; omega
  have hbz : (0 + n) * 1 ≤ 140737488355328 := by omega
  have hnw : ∀ j u, (bytes n px)[j]? = some u → (w.alloc (.cells #[] 5)).cell? ((⟨b, off, none⟩ : Addr).add j) = some u := by
    intro j u hj
    have hjn : j < n := by
      have := (List.getElem?_eq_some_iff.1 hj).1
      simpa [bytes] using this
    have hu : u = .int .u8 (px j) := by simp [bytes, hjn] at hj; exact hj.symm
    rw [hu, show (⟨b, off, none⟩ : Addr).add j = ⟨b, off + j, none⟩ from by unfold Addr.add; split <;> simp_all]
    exact ((below_allocs (Below.refl w.heap.size w) (.cells #[] 5)).cell (p := ⟨b, off + j, none⟩) hb).trans (HC.out j hjn)
  have h1c : ∀ u ∈ bytes n px, u.oneCell' = true := by
    intro u hu
    simp only [bytes, List.mem_map] at hu
    obtain ⟨i, _, rfl⟩ := hu
    rfl
  have hnl : (bytes n px).length = n * 1 := by simp [bytes]
  have hnil := fun (W : World) => Lib.run_eql_slice_nil (P := Try.prog) W 22 5 (some ⟨b, off, none⟩) n ca 0 0 Try.underlying22
  have HNW := Lib.hid hnw; have H1C := Lib.hid h1c; have HNL := Lib.hid hnl; clear hnw h1c hnl
  go_wp2_with (at_builtin; refine wpList_append_grows _ rfl _ _ 22 rfl 5 i0 (.int .u8 0) 1 1 Try.underlying22 HI0.out HI1.out HI2.out HI3.out rfl (by decide) (some ⟨w.heap.size, 0, none⟩) 0 0 [] rfl (fun h => by cases h) rfl (fun b hb j u hj => by simp at hj) ⟨b, off, none⟩ n ca (bytes n px) rfl HNL.out HNW.out H1C.out (by omega) hmx hbz ?_; intro v' w1 hown hgrow)
  rw [Nat.zero_add, List.nil_append] at hown
  rcases hown.2 with ⟨_, h0⟩ | ⟨g, cap, cur, rfl, hg, hcell, hk, hm, _⟩
  · omega
  go_wp2_with fail
  go_ret
  refine ⟨g, cap, rfl, hk, hm, ownsRow_down hown (by simp), ?_⟩
  exact (below_allocs (Below.refl _ _) _).grown hgrow (by simp) (fun k e => by cases e)
end Go.Proofs.Ytkebkbjkapfgkaa
