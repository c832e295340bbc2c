/- Parts of the proof, no condition: RepO. -/
import Derived.Test.YtmpjnbhdlfneaaaGreatDoorEe5
set_option maxRecDepth 100000
set_option maxHeartbeats 2000000
set_option linter.unusedSimpArgs false
set_option linter.unusedVariables false
namespace Go.Proofs.YtmpjnbhdlfneaaaGreatDoor
open Go.RowKit Go.Sort
theorem Rep.Two.base {W : World} {B B' bs h : Nat} {v : Value} {x y : Int} (k : Rep.Two W B bs h v x y) (hb : B' ≤ B) : Rep.Two W B' bs h v x y := by
 obtain ⟨p, c, rfl, h1, r⟩ := k; exact ⟨p, c, rfl, by omega, r⟩
def Rep.Fin (W : World) (bs h : Nat) : Prop :=
 ∃ f, Rep.At W bs f (.slice (some ⟨h, 0, none⟩) 2 2) ∧ (∀ x, x ≠ 34 → x ≠ 92 → f x = .slice none 0 0) ∧ Rep.Two W 0 bs h (f 34) 92 34 ∧ Rep.Two W 0 bs h (f 92) 92 92 ∧
   W.cell? ⟨h, 0, none⟩ = some (.string ⟨#[92]⟩) ∧ W.cell? ⟨h, 1, none⟩ = some (.string ⟨#[34]⟩) ∧ h < W.heap.size
theorem Rep.Fin.of {W W' : World} {bs h : Nat} (k : Rep.Fin W bs h) (hs : W.heap.size ≤ W'.heap.size) (hb : ∀ p, p < W.heap.size → h ≤ p → W'.heap[p]? = W.heap[p]?) (hbs : h ≤ bs) (hp : ∀ v x y, Rep.Two W 0 bs h v x y → Rep.Two W h bs h v x y) : Rep.Fin W' bs h := by
 obtain ⟨f, h1, h2, h3, h4, h5, h6, h7⟩ := k
 have two : ∀ v x y, Rep.Two W 0 bs h v x y → Rep.Two W' 0 bs h v x y := by
  intro v x y q
  obtain ⟨p, c, rfl, g1, g2, g3, g4, g5, g6⟩ := hp v x y q
  have e := hb p g2 g1
  exact ⟨p, c, rfl, Nat.zero_le _, by omega, g3, g4, by rw [World.cell?_of_block e]; exact g5, by rw [World.cell?_of_block e]; exact g6⟩
 exact ⟨f, h1.of_block (hb _ h1.lt hbs), h2, two _ _ _ h3, two _ _ _ h4, by rw [World.cell?_of_block (hb h h7 (Nat.le_refl _))]; exact h5, by rw [World.cell?_of_block (hb h h7 (Nat.le_refl _))]; exact h6, by omega⟩
theorem buildOnce_is {cp : Nat} (b o : Nat) (w : World) (x3 : Value) (q3 : w.cell? ⟨b, 3, none⟩ = some x3) (q : w.cell? ⟨b, 4, none⟩ = some (.slice (some ⟨o, 0, none⟩) 4 cp)) (s0 : w.cell? ⟨o, 0, none⟩ = some (.string ⟨#[34]⟩)) (s1 : w.cell? ⟨o, 1, none⟩ = some (.string ⟨#[92, 34]⟩))
  (s2 : w.cell? ⟨o, 2, none⟩ = some (.string ⟨#[92]⟩)) (s3 : w.cell? ⟨o, 3, none⟩ = some (.string ⟨#[92, 92]⟩)) (ho : o < w.heap.size) (hb : b < w.heap.size) (hz : ∀ k, w.frozen? ⟨b, k, none⟩ = false) :
  Calls Tryz.prog 89 #[.pointer (some ⟨b, 0, none⟩)] w fun e w' => e = .returned (.tuple #[]) ∧ ∃ W1, Rep.St w w.heap.size (w.heap.size + 1) w.heap.size 2 W1 ∧
   w' = (W1.setCell ⟨b, 3, none⟩ (.iface 183 (.pointer (some ⟨w.heap.size + 1, 0, none⟩)))).setCell ⟨b, 4, none⟩ (.slice none 0 0) := by
 have HB := Lib.hid (build_is b o w q s0 s1 s2 s3 ho)
 go_enter Tryz.func89, Tryz.ntmps89
 go_upto_region 1 with (go_at_call 121; refine HB.out.mono ?_; rintro e w1 ⟨rfl, hS⟩; have HS := Lib.hid hS; obtain ⟨_, _, _, _, _, _, hBl⟩ := hS; have d3 := (hBl.cell (p := ⟨b, 3, none⟩) hb).trans q3; have d4 := (hBl.cell (p := ⟨b, 4, none⟩) hb).trans q; have z3 := (hBl.frozen (p := ⟨b, 3, none⟩) hb).trans (hz 3); have z4 := (hBl.frozen (p := ⟨b, 4, none⟩) hb).trans (hz 4); clear hBl)
 go_wp2_with fail
 go_end0
 exact ⟨rfl, _, HS.out, rfl⟩
theorem load_zero (a : Addr) (w : World) (h : w.cell? a = some (.int .u32 0)) : Calls Tryz.prog 119 #[.pointer (some a)] w fun e w' => e = .returned (.bool false) ∧ w' = w := by
 have hl := run_call_load (P := Tryz.prog) Tryz.func140 (by kernel_rfl) (by kernel_rfl) (by kernel_rfl) .u32 (by kernel_rfl) h
 go_enter Tryz.func119, Tryz.ntmps119
 go_wp2
 go_ret
 exact ⟨rfl, rfl⟩
theorem slow_is {cp : Nat} (b o : Nat) (w : World) (x3 : Value) (h0 : w.cell? ⟨b, 0, none⟩ = some (.int .u32 0)) (h1 : w.cell? ⟨b, 1, none⟩ = some (.int .i32 0)) (q3 : w.cell? ⟨b, 3, none⟩ = some x3) (q : w.cell? ⟨b, 4, none⟩ = some (.slice (some ⟨o, 0, none⟩) 4 cp))
  (s0 : w.cell? ⟨o, 0, none⟩ = some (.string ⟨#[34]⟩)) (s1 : w.cell? ⟨o, 1, none⟩ = some (.string ⟨#[92, 34]⟩)) (s2 : w.cell? ⟨o, 2, none⟩ = some (.string ⟨#[92]⟩)) (s3 : w.cell? ⟨o, 3, none⟩ = some (.string ⟨#[92, 92]⟩))
  (ho : o < w.heap.size) (hb : b < w.heap.size) (hz : ∀ k, w.frozen? ⟨b, k, none⟩ = false) (hob : o ≠ b) :
  Calls Tryz.prog 120 #[.pointer (some ⟨b, 0, none⟩), .func (.func 89) #[.pointer (some ⟨b, 0, none⟩)] #[]] w fun e w' => e = .returned (.tuple #[]) ∧
   ∃ W1, Rep.St (w.setCell ⟨b, 1, none⟩ (.int .i32 1)) w.heap.size (w.heap.size + 1) w.heap.size 2 W1 ∧
   w' = (((W1.setCell ⟨b, 3, none⟩ (.iface 183 (.pointer (some ⟨w.heap.size + 1, 0, none⟩)))).setCell ⟨b, 4, none⟩ (.slice none 0 0)).drew.setCell ⟨b, 0, none⟩ (.int .u32 1)).setCell ⟨b, 1, none⟩ (.int .i32 0) := by
 have oth : ∀ k, (w.setCell ⟨b, 1, none⟩ (.int .i32 1)).cell? ⟨o, k, none⟩ = w.cell? ⟨o, k, none⟩ := fun k => World.cell?_setCell_other _ ⟨b, 1, none⟩ ⟨o, k, none⟩ _ (fun e => hob (congrArg Addr.block e).symm)
 have oth' : ∀ k, k ≠ 1 → (w.setCell ⟨b, 1, none⟩ (.int .i32 1)).cell? ⟨b, k, none⟩ = w.cell? ⟨b, k, none⟩ := fun k hk => World.cell?_setCell_other _ ⟨b, 1, none⟩ ⟨b, k, none⟩ _ (fun e => hk (congrArg Addr.off e).symm)
 have HB := Lib.hid (buildOnce_is b o (w.setCell ⟨b, 1, none⟩ (.int .i32 1)) x3 ((oth' 3 (by omega)).trans q3) ((oth' 4 (by omega)).trans q) ((oth 0).trans s0) ((oth 1).trans s1) ((oth 2).trans s2) ((oth 3).trans s3) (by simpa using ho) (by simpa using hb) (fun k => by simpa using hz k))
 have hnot : ∀ (x : Bool) (w : World), (Op.unary .not (.bool x)).run Tryz.prog w = .ok (.bool (!x)) w := fun _ _ => rfl
 have hz1 := hz 1
 have HZ := Lib.hid hz
 have H0 := Lib.hid ((oth' 0 (by omega)).trans h0)
 have H1 := Lib.hid (World.cell?_setCell_same w ⟨b, 1, none⟩ (.int .i32 1) h1)
 have HBB := Lib.hid (show b < (w.setCell ⟨b, 1, none⟩ (.int .i32 1)).heap.size by simpa using hb)
 rw [show (w.setCell ⟨b, 1, none⟩ (.int .i32 1)).heap.size = w.heap.size by simp] at HB
 clear oth oth' q3 q s0 s1 s2 s3 hz hob ho hb h0
 go_enter_defers Tryz.func120, Tryz.ntmps120
 go_wp2_with (first | (go_at_call 141; refine (Onc.lock_free ⟨b, 1, none⟩ _ h1 hz1).mono ?_; rintro e w' ⟨rfl, rfl⟩) | (go_at_call 119; refine (load_zero ⟨b, 0, none⟩ _ H0.out).mono ?_; rintro e w' ⟨rfl, rfl⟩) | (go_at_call 89; refine HB.out.mono ?_; rintro e w2 ⟨rfl, W1, hS, hw2⟩; have HS := Lib.hid hS; obtain ⟨_, _, _, _, _, _, hBl⟩ := hS))
 all_goals
  have e0 := (hBl.cell (p := ⟨b, 0, none⟩) HBB.out).trans H0.out
  have e1 := (hBl.cell (p := ⟨b, 1, none⟩) HBB.out).trans H1.out
  have f0 : W1.frozen? ⟨b, 0, none⟩ = false := (hBl.frozen (p := ⟨b, 0, none⟩) HBB.out).trans (by simpa using HZ.out 0)
  have f1 : W1.frozen? ⟨b, 1, none⟩ = false := (hBl.frozen (p := ⟨b, 1, none⟩) HBB.out).trans (by simpa using HZ.out 1)
  subst hw2
  go_wp2
  refine leaves_cons (f := 143) (args := #[.pointer (some ⟨b, 0, none⟩), .bool true]) (by simp) (by simp [go_sem]) ?_
  refine (Onc.store_deferred ⟨b, 0, none⟩ (.int .u32 0) .returning _ ?_ (by simp [f0])).mono ?_
  ·exact (World.cell?_setCell_other _ ⟨b, 4, none⟩ ⟨b, 0, none⟩ _ (by simp)).trans ((World.cell?_setCell_other _ ⟨b, 3, none⟩ ⟨b, 0, none⟩ _ (by simp)).trans e0)
  rintro e u' w'' ⟨rfl, rfl, rfl⟩
  refine leaves_cons (f := 142) (args := #[.pointer (some ⟨b, 1, none⟩)]) (by simp [settle]) (by simp [go_sem]) ?_
  refine (Onc.unlock_deferred ⟨b, 1, none⟩ _ _ ?_ (by simp [f1])).mono ?_
  ·refine (World.cell?_setCell_other _ ⟨b, 0, none⟩ ⟨b, 1, none⟩ _ (by simp)).trans ?_
   rw [World.cell?_drew]
   exact (World.cell?_setCell_other _ ⟨b, 4, none⟩ ⟨b, 1, none⟩ _ (by simp)).trans ((World.cell?_setCell_other _ ⟨b, 3, none⟩ ⟨b, 1, none⟩ _ (by simp)).trans e1)
  rintro e u' w'' ⟨rfl, rfl, rfl⟩
  simp [Leaves, settle, results, Tryz.results120]
  exact ⟨_, HS.out, rfl⟩
theorem Rep.fin {b : Nat} {w W1 w2 : World} {x3 : Value} (hb : b < w.heap.size) (q3 : w.cell? ⟨b, 3, none⟩ = some x3) (hS : Rep.St (w.setCell ⟨b, 1, none⟩ (.int .i32 1)) w.heap.size (w.heap.size + 1) w.heap.size 2 W1)
  (hw2 : w2 = (((W1.setCell ⟨b, 3, none⟩ (.iface 183 (.pointer (some ⟨w.heap.size + 1, 0, none⟩)))).setCell ⟨b, 4, none⟩ (.slice none 0 0)).drew.setCell ⟨b, 0, none⟩ (.int .u32 1)).setCell ⟨b, 1, none⟩ (.int .i32 0)) :
  w2.cell? ⟨b, 3, none⟩ = some (.iface 183 (.pointer (some ⟨w.heap.size + 1, 0, none⟩))) ∧ Rep.Fin w2 (w.heap.size + 1) w.heap.size ∧ Below b w w2 := by
 obtain ⟨f, hA, hf, h34, h92, hO, hBl⟩ := hS
 rw [if_neg (by omega)] at h34 h92
 have d3 : W1.cell? ⟨b, 3, none⟩ = some x3 := (hBl.cell (p := ⟨b, 3, none⟩) (by simpa using hb)).trans ((World.cell?_setCell_other _ ⟨b, 1, none⟩ ⟨b, 3, none⟩ _ (by simp)).trans q3)
 have hk : ∀ k, k ≠ b → w2.heap[k]? = W1.heap[k]? := by
  intro k hk
  rw [hw2]
  exact (Below.heap_setCell _ _ _ k hk).trans ((Below.heap_setCell _ _ _ k hk).trans ((show _ = _ from rfl).trans ((Below.heap_setCell _ _ _ k hk).trans (Below.heap_setCell _ _ _ k hk))))
 have hsz : W1.heap.size = w2.heap.size := by rw [hw2]; simp
 have two : ∀ v x y, Rep.Two W1 w.heap.size (w.heap.size + 1) w.heap.size v x y → Rep.Two w2 0 (w.heap.size + 1) w.heap.size v x y := by
  intro v x y ⟨p, c, e, g1, g2, g3, g4, g5, g6⟩
  have e' := hk p (by omega)
  exact ⟨p, c, e, Nat.zero_le _, by omega, g3, g4, by rw [World.cell?_of_block e']; exact g5, by rw [World.cell?_of_block e']; exact g6⟩
 have ec := hk w.heap.size (by omega)
 refine ⟨?_, ⟨f, hA.of_block (hk _ (by omega)), hf, two _ _ _ h34, two _ _ _ h92, ?_, ?_, ?_⟩, ?_⟩
 ·rw [hw2]
  refine (World.cell?_setCell_other _ ⟨b, 1, none⟩ ⟨b, 3, none⟩ _ (by simp)).trans ((World.cell?_setCell_other _ ⟨b, 0, none⟩ ⟨b, 3, none⟩ _ (by simp)).trans ?_)
  rw [World.cell?_drew]
  exact (World.cell?_setCell_other _ ⟨b, 4, none⟩ ⟨b, 3, none⟩ _ (by simp)).trans (World.cell?_setCell_same _ _ _ d3)
 ·rw [World.cell?_of_block ec]; exact hO.cellAt 0 (by omega)
 ·rw [World.cell?_of_block ec]; exact hO.cellAt 1 (by omega)
 ·have := hA.lt; omega
 ·rw [hw2]
  have hb1 : Below b w (w.setCell ⟨b, 1, none⟩ (.int .i32 1)) := (Below.refl b w).setCell (p := ⟨b, 1, none⟩) (Nat.le_refl b) _
  exact ((((((hb1.trans (hBl.mono (by simp; omega))).setCell (p := ⟨b, 3, none⟩) (Nat.le_refl _) _).setCell (p := ⟨b, 4, none⟩) (Nat.le_refl _) _).drew).setCell (p := ⟨b, 0, none⟩) (Nat.le_refl _) _).setCell (p := ⟨b, 1, none⟩) (Nat.le_refl _) _)
theorem do_is {cp : Nat} (b o : Nat) (w : World) (x3 : Value) (h0 : w.cell? ⟨b, 0, none⟩ = some (.int .u32 0)) (h1 : w.cell? ⟨b, 1, none⟩ = some (.int .i32 0)) (q3 : w.cell? ⟨b, 3, none⟩ = some x3) (q : w.cell? ⟨b, 4, none⟩ = some (.slice (some ⟨o, 0, none⟩) 4 cp))
  (s0 : w.cell? ⟨o, 0, none⟩ = some (.string ⟨#[34]⟩)) (s1 : w.cell? ⟨o, 1, none⟩ = some (.string ⟨#[92, 34]⟩)) (s2 : w.cell? ⟨o, 2, none⟩ = some (.string ⟨#[92]⟩)) (s3 : w.cell? ⟨o, 3, none⟩ = some (.string ⟨#[92, 92]⟩))
  (ho : o < w.heap.size) (hb : b < w.heap.size) (hz : ∀ k, w.frozen? ⟨b, k, none⟩ = false) (hob : o ≠ b) :
  Calls Tryz.prog 88 #[.pointer (some ⟨b, 0, none⟩), .func (.func 89) #[.pointer (some ⟨b, 0, none⟩)] #[]] w fun e w' => e = .returned (.tuple #[]) ∧
   w'.cell? ⟨b, 3, none⟩ = some (.iface 183 (.pointer (some ⟨w.heap.size + 1, 0, none⟩))) ∧ Rep.Fin w' (w.heap.size + 1) w.heap.size ∧ Below b w w' := by
 have HS := Lib.hid (slow_is b o w x3 h0 h1 q3 q s0 s1 s2 s3 ho hb hz hob)
 have hnot : ∀ (x : Bool) (w : World), (Op.unary .not (.bool x)).run Tryz.prog w = .ok (.bool (!x)) w := fun _ _ => rfl
 have HF := Lib.hid (fun W1 w2 h => Rep.fin (W1 := W1) (w2 := w2) hb q3 h)
 clear q3 q s0 s1 s2 s3 ho hb hz hob h1
 go_enter Tryz.func88, Tryz.ntmps88
 go_wp2_with (first | (go_at_call 119; refine (load_zero ⟨b, 0, none⟩ _ h0).mono ?_; rintro e w' ⟨rfl, hw'⟩; subst w') | (go_at_call 120; refine HS.out.mono ?_; rintro e w2 ⟨rfl, W1, hS, hw2⟩; have HG := Lib.hid (HF.out W1 w2 hS hw2); clear hS hw2))
 go_end0
 exact ⟨rfl, HG.out⟩
end Go.Proofs.YtmpjnbhdlfneaaaGreatDoor
