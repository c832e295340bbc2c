/- Parts of the proof, no condition: OrdN. -/
import Derived.Test.YthdiccdnggloiaaGreatDoorKp1
namespace Go.Proofs.YthdiccdnggloiaaGreatDoor
open Go
section
variable {P : Program} {ops : Array Oper} {Q : Exit → Act → World → Prop} {md : Region.Mode} {C : World → Prop} {m k : Nat}
theorem anyM_firstVia {i : Nat} {oi om ok : Oper} {v : Value} (hi : ops[i]? = some oi) (hom : ops[m]? = some om) (hok : ops[k]? = some ok) (hwm : ∃ e ∈ om.after, Region.binds md e = true ∧ e.on = k) (hwk : ∃ e ∈ ok.after, Region.binds md e = true ∧ e.on = i) (him : i ≠ m) (hik : i ≠ k) (hkm : k ≠ m)
  (hsel : ∀ (j : Nat) (o : Oper) cs b, ops[j]? = some o → o.op ≠ .select cs b) (hQ : ∀ c a w, Q (.panic c) (a.put oi.dst v) w → Q (.panic c) a w) :
  ∀ (f : Nat) (l : Array Bool) (a : Act) (w : World),
    (∀ j oj, ops[j]? = some oj → j ≠ i → j ≠ m → l.getD j true = false → (∀ e ∈ oj.after, Region.binds md e = true → e.on ≠ i) → oi.apart ops oj = true) →
    i ∈ Region.ready md ops l → YieldsIf P ops C oi v a → l.getD m true = false → l.getD k true = false → C w →
    anyM P md ops Q C m f (l.setIfInBounds i true) (a.put oi.dst v) w → anyM P md ops Q C m (f + 1) l a w := by
 have one : ∀ (f : Nat) (l : Array Bool) (a : Act) (w : World), YieldsIf P ops C oi v a → C w → anyM P md ops Q C m f (l.setIfInBounds i true) (a.put oi.dst v) w →
   wpOp P ops Q i (fun a' w' => Until C m (l.setIfInBounds i true) w' ∧ anyM P md ops Q C m f (l.setIfInBounds i true) a' w') a w :=
  fun f l a w hy hC H => hy.wpOp hi hC ⟨fun _ => hC, H⟩
 intro f
 induction f with
 | zero =>
   intro l a w _ hr hy _ _ hC H
   refine ⟨fun h => (by rw [h] at hr; cases hr), fun j hj => ?_⟩
   by_cases hji : j = i
   ·subst hji; exact one 0 l a w hy hC H
   ·have := ready_mono hj hji
    rw [H.1] at this; cases this
 | succ f ih =>
   intro l a w hfree hr hy hm hk hC H
   refine ⟨fun h => (by rw [h] at hr; cases hr), fun j hj => ?_⟩
   by_cases hji : j = i
   ·subst hji; exact one (f + 1) l a w hy hC H
   ·obtain ⟨hjun, oj, hoj, hall⟩ := mem_ready.1 hj
    have hiun := (mem_ready.1 hr).1
    have hno : ∀ e ∈ oj.after, Region.binds md e = true → e.on ≠ i := fun e he hb heq => both_no hiun (heq ▸ hall e he hb)
    have hjk : j ≠ k := by
     rintro rfl
     rw [hok] at hoj
     injection hoj with hoj
     subst hoj
     obtain ⟨e, he, hb, heq⟩ := hwk
     exact hno e he hb heq
    have hjm : j ≠ m := by
     rintro rfl
     rw [hom] at hoj
     injection hoj with hoj
     subst hoj
     obtain ⟨e, he, hb, heq⟩ := hwm
     exact both_no hk (heq ▸ hall e he hb)
    have hstep := wpOp_putIf hoj (hfree j oj hoj hji hjm hjun hno) (fun cs b => hsel i oi cs b hi) (fun cs b => hsel j oj cs b hoj) hQ hy (H.2 j (ready_mono hj hji))
    have hm' : (l.setIfInBounds j true).getD m true = false := by rw [getD_set_ne true hjm]; exact hm
    have hk' : (l.setIfInBounds j true).getD k true = false := by rw [getD_set_ne true hjk]; exact hk
    have hm2 : ((l.setIfInBounds i true).setIfInBounds j true).getD m true = false := by rw [getD_set_ne true hjm, getD_set_ne true him]; exact hm
    refine wpOp_mono (fun a' w' h3 => ⟨fun _ => h3.2.1 hm2, ih (l.setIfInBounds j true) a' w' (fun k2 ok2 hk2 hki hkm2 hun hno' => ?_) (ready_mono hr (Ne.symm hji)) h3.1 hm' hk' (h3.2.1 hm2) ?_⟩) hstep
    ·refine hfree k2 ok2 hk2 hki hkm2 ?_ hno'
     by_cases hjk2 : j = k2
     ·subst hjk2; exact hjun
     ·rw [getD_set_ne true hjk2] at hun; exact hun
    ·rw [Array.setIfInBounds_comm _ _ hji]
     exact h3.2.2
theorem anyM_takeVia {i : Nat} {oi om ok : Oper} {v : Value} {f : Nat} {l : Array Bool} {a : Act} {w : World} (hi : ops[i]? = some oi) (hom : ops[m]? = some om) (hok : ops[k]? = some ok) (hwm : (om.after.any fun e => Region.binds md e && e.on == k) = true) (hwk : (ok.after.any fun e => Region.binds md e && e.on == i) = true) (him : i ≠ m) (hik : i ≠ k) (hkm : k ≠ m)
  (hs : Region.noSelect ops = true) (hf : Region.free md ops (l.setIfInBounds m true) i = true) (hr : (Region.ready md ops l).contains i = true)
  (hQ : ∀ c a w, Q (.panic c) (a.put oi.dst v) w → Q (.panic c) a w) (hy : YieldsIf P ops C oi v a) (hm : l.getD m true = false) (hk : l.getD k true = false) (hC : C w)
  (h : anyM P md ops Q C m f (l.setIfInBounds i true) (a.put oi.dst v) w) : anyM P md ops Q C m (f + 1) l a w := by
 have un : ∀ {o : Oper} {q : Nat}, (o.after.any fun e => Region.binds md e && e.on == q) = true → ∃ e ∈ o.after, Region.binds md e = true ∧ e.on = q := fun h => by
  obtain ⟨j, hj, hb⟩ := Array.any_eq_true.1 h
  rw [Bool.and_eq_true] at hb
  exact ⟨_, Array.getElem_mem hj, hb.1, by simpa using hb.2⟩
 refine anyM_firstVia hi hom hok (un hwm) (un hwk) him hik hkm (Region.noSelect_spec hs) hQ f l a w (fun j oj hj hji hjm hun hno => ?_) (by simpa using hr) hy hm hk hC h
 exact Region.free_spec hi hf j oj hj hji (by rw [getD_set_ne true (Ne.symm hjm)]; exact hun) hno
end
end Go.Proofs.YthdiccdnggloiaaGreatDoor
