/- The law PixBest returns true for every list of images. -/
import Derived.Test.YtkebkbjkapfgkaaPixBestLaw
namespace Go.Proofs.Ytkebkbjkapfgkaa
open Go.RowKit Go.Sort
set_option linter.unusedVariables false
theorem pixBest_walk (a : Option Addr) (n ca : Nat) (Ws Hs : Nat → Int) (ads : Nat → Option Addr) (ns cas : Nat → Nat) (px : Nat → Nat → Int) (w : World) (hl : ImgList w a n Ws Hs ads ns cas px) (hn : n ≤ 9223372036854775807) (hpx : ∀ i k, 0 ≤ px i k ∧ px i k ≤ 255) :
    Calls Try.prog 4 #[.slice a n ca] w fun e w' => e = .returned (.bool true) ∧ Below w.heap.size w w' := by
  by_cases h0 : n = 0
  · subst h0
    exact pixBest_by a 0 ca 0 7 w (best_none a ca w) (fun V _ => bestOf_none a ca V)
  · rcases Im.least (fun i => Im.err (Ws i) (Hs i) (ns i)) n with hok | ⟨j, hj, hlt, hne⟩
    · have hside : ∀ i, i < n → (1 ≤ Ws i ∧ Ws i ≤ 64 ∧ 1 ≤ Hs i ∧ Hs i ≤ 64) ∧ (ns i : Int) = 3 * Ws i * Hs i := fun i hi => by
        have he := hok i hi
        simp only [Im.err] at he
        split at he
        · omega
        · split at he
          · exact ⟨by omega, by assumption⟩
          · omega
      have hl2 : ∀ V, ImgList V a n Ws Hs ads ns cas px → ImgList V a n (fun i => ((Ws i).toNat : Int)) (fun i => ((Hs i).toNat : Int)) ads (fun i => 3 * ((Hs i).toNat * (Ws i).toNat)) cas px := fun V h => by
        have e1 : ∀ i, i < n → ((Ws i).toNat : Int) = Ws i := fun i hi => by have := hside i hi; omega
        have e2 : ∀ i, i < n → ((Hs i).toNat : Int) = Hs i := fun i hi => by have := hside i hi; omega
        have e3 : ∀ i, i < n → 3 * ((Hs i).toNat * (Ws i).toNat) = ns i := fun i hi => by
          have h3 := (hside i hi).2
          rw [← e1 i hi, ← e2 i hi, Int.mul_assoc, Int.mul_comm ((Ws i).toNat : Int)] at h3
          exact_mod_cast h3.symm
        refine ⟨fun hn0 => ?_, fun i hi => by show Row V (ads i) (3 * ((Hs i).toNat * (Ws i).toNat)) _ ∧ _; rw [e3 i hi]; exact h.rows i hi⟩
        obtain ⟨b, off, e, hb, hc⟩ := h.elems hn0
        exact ⟨b, off, e, hb, fun i hi => by show V.cell? _ = some (.int .i64 ((Ws i).toNat : Int)) ∧ V.cell? _ = some (.int .i64 ((Hs i).toNat : Int)) ∧ V.cell? _ = some (.slice (ads i) (3 * ((Hs i).toNat * (Ws i).toNat)) (cas i)); rw [e1 i hi, e2 i hi, e3 i hi]; exact hc i hi⟩
      have hok2 : ∀ i, i < n → 1 ≤ (Ws i).toNat ∧ (Ws i).toNat ≤ 64 ∧ 1 ≤ (Hs i).toNat ∧ (Hs i).toNat ≤ 64 := fun i hi => by have := (hside i hi).1; omega
      exact pixBest_by a n ca _ 0 w (best_ok a n ca _ _ ads cas px w (hl2 w hl) hn (by omega) hok2 hpx) (fun V hV => bestOf_ok a n ca _ _ ads cas px V (hl2 V (hl.keep hV)) hn (by omega) hok2 hpx)
    · exact pixBest_by a n ca 0 _ w (best_err a n ca Ws Hs ads ns cas px w hl hn j _ hj hlt rfl hne) (fun V hV => bestOf_err a n ca Ws Hs ads ns cas px V (hl.keep hV) hn j _ hj hlt rfl hne)
end Go.Proofs.Ytkebkbjkapfgkaa
