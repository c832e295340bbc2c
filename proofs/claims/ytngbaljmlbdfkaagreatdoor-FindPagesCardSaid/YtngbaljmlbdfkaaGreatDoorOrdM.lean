/- A region that draws its order and ends in stores into the cells that it loads first: the loads may be taken first as long as the first store (operation m) has not come up. -/
import Derived.Deep.RegionHeld
import Derived.Test.YtngbaljmlbdfkaaGreatDoorProg
namespace Go.Proofs.YtngbaljmlbdfkaaGreatDoor
open Go
section
variable {P : Program} {ops : Array Oper} {Q : Exit → Act → World → Prop} {md : Region.Mode} {C : World → Prop} {m : Nat}
/-- C holds until operation m has come up. -/
def Until (C : World → Prop) (m : Nat) (l : Array Bool) (w : World) : Prop := l.getD m true = false → C w
def anyM (P : Program) (md : Region.Mode) (ops : Array Oper) (Q : Exit → Act → World → Prop) (C : World → Prop) (m : Nat) : Nat → Array Bool → Act → World → Prop
  | 0, l, a, w => Region.ready md ops l = [] ∧ Q .normal a w
  | f + 1, l, a, w => (Region.ready md ops l = [] → Q .normal a w) ∧ ∀ i ∈ Region.ready md ops l, wpOp P ops Q i (fun a' w' => Until C m (l.setIfInBounds i true) w' ∧ anyM P md ops Q C m f (l.setIfInBounds i true) a' w') a w
theorem anyM_any : ∀ (f : Nat) (l : Array Bool) (a : Act) (w : World), anyM P md ops Q C m f l a w → wpAny P md ops Q f l a w
  | 0, _, _, _, h => h
  | f + 1, _, _, _, h => ⟨h.1, fun i hi => wpOp_mono (fun a' w' h' => anyM_any f _ a' w' h'.2) (h.2 i hi)⟩
theorem both_no {l : Array Bool} {i : Nat} (h : l.getD i true = false) (g : l.getD i false = true) : False := by
  rcases Nat.lt_or_ge i l.size with h' | h'
  · simp [h'] at h g; rw [h] at g; cases g
  · simp [Array.getElem?_eq_none h'] at g
theorem anyM_first {i : Nat} {oi om : Oper} {v : Value} (hi : ops[i]? = some oi) (hom : ops[m]? = some om) (hwait : ∃ e ∈ om.after, Region.binds md e = true ∧ e.on = i) (him : i ≠ m)
    (hsel : ∀ (j : Nat) (o : Oper) cs b, ops[j]? = some o → o.op ≠ .select cs b) (hQ : ∀ c a w, Q (.panic c) (a.put oi.dst v) w → Q (.panic c) a w) :
    ∀ (f : Nat) (l : Array Bool) (a : Act) (w : World),
      (∀ j oj, ops[j]? = some oj → j ≠ i → l.getD j true = false → (∀ e ∈ oj.after, Region.binds md e = true → e.on ≠ i) → oi.apart ops oj = true) →
      i ∈ Region.ready md ops l → YieldsIf P ops C oi v a → l.getD m true = false → C w →
      anyM P md ops Q C m f (l.setIfInBounds i true) (a.put oi.dst v) w → anyM P md ops Q C m (f + 1) l a w := by
  have one : ∀ (f : Nat) (l : Array Bool) (a : Act) (w : World), YieldsIf P ops C oi v a → C w → anyM P md ops Q C m f (l.setIfInBounds i true) (a.put oi.dst v) w →
      wpOp P ops Q i (fun a' w' => Until C m (l.setIfInBounds i true) w' ∧ anyM P md ops Q C m f (l.setIfInBounds i true) a' w') a w :=
    fun f l a w hy hC H => hy.wpOp hi hC ⟨fun _ => hC, H⟩
  intro f
  induction f with
  | zero =>
    intro l a w _ hr hy _ hC H
    refine ⟨fun h => (by rw [h] at hr; cases hr), fun j hj => ?_⟩
    by_cases hji : j = i
    · subst hji; exact one 0 l a w hy hC H
    · have := ready_mono hj hji
      rw [H.1] at this; cases this
  | succ f ih =>
    intro l a w hfree hr hy hm hC H
    refine ⟨fun h => (by rw [h] at hr; cases hr), fun j hj => ?_⟩
    by_cases hji : j = i
    · subst hji; exact one (f + 1) l a w hy hC H
    · obtain ⟨hjun, oj, hoj, hall⟩ := mem_ready.1 hj
      have hiun := (mem_ready.1 hr).1
      have hno : ∀ e ∈ oj.after, Region.binds md e = true → e.on ≠ i := fun e he hb heq => both_no hiun (heq ▸ hall e he hb)
      have hjm : j ≠ m := by
        rintro rfl
        rw [hom] at hoj
        injection hoj with hoj
        subst hoj
        obtain ⟨e, he, hb, heq⟩ := hwait
        exact hno e he hb heq
      have hstep := wpOp_putIf hoj (hfree j oj hoj hji hjun hno) (fun cs b => hsel i oi cs b hi) (fun cs b => hsel j oj cs b hoj) hQ hy (H.2 j (ready_mono hj hji))
      have hm' : (l.setIfInBounds j true).getD m true = false := by rw [getD_set_ne true hjm]; exact hm
      have hm2 : ((l.setIfInBounds i true).setIfInBounds j true).getD m true = false := by rw [getD_set_ne true hjm, getD_set_ne true him]; exact hm
      refine wpOp_mono (fun a' w' h3 => ⟨fun _ => h3.2.1 hm2, ih (l.setIfInBounds j true) a' w' (fun k ok hk hki hun hno' => ?_) (ready_mono hr (Ne.symm hji)) h3.1 hm' (h3.2.1 hm2) ?_⟩) hstep
      · refine hfree k ok hk hki ?_ hno'
        by_cases hjk : j = k
        · subst hjk; exact hjun
        · rw [getD_set_ne true hjk] at hun; exact hun
      · rw [Array.setIfInBounds_comm _ _ hji]
        exact h3.2.2
/-- Operation i is taken first. -/
theorem anyM_take {i : Nat} {oi om : Oper} {v : Value} {f : Nat} {l : Array Bool} {a : Act} {w : World} (hi : ops[i]? = some oi) (hom : ops[m]? = some om) (hwait : (om.after.any fun e => Region.binds md e && e.on == i) = true) (him : i ≠ m)
    (hs : Region.noSelect ops = true) (hf : Region.free md ops l i = true) (hr : (Region.ready md ops l).contains i = true)
    (hQ : ∀ c a w, Q (.panic c) (a.put oi.dst v) w → Q (.panic c) a w) (hy : YieldsIf P ops C oi v a) (hm : l.getD m true = false) (hC : C w)
    (h : anyM P md ops Q C m f (l.setIfInBounds i true) (a.put oi.dst v) w) : anyM P md ops Q C m (f + 1) l a w :=
  anyM_first hi hom (by
    obtain ⟨k, hk, hb⟩ := Array.any_eq_true.1 hwait
    rw [Bool.and_eq_true] at hb
    exact ⟨_, Array.getElem_mem hk, hb.1, by simpa using hb.2⟩) him (Region.noSelect_spec hs) hQ f l a w (Region.free_spec hi hf) (by simpa using hr) hy hm hC h
/-- Operation i, that yields in whatever world, is taken first. -/
theorem anyM_first0 {i : Nat} {oi : Oper} {v : Value} (hi : ops[i]? = some oi) (him : i ≠ m)
    (hsel : ∀ (j : Nat) (o : Oper) cs b, ops[j]? = some o → o.op ≠ .select cs b) (hQ : ∀ c a w, Q (.panic c) (a.put oi.dst v) w → Q (.panic c) a w) :
    ∀ (f : Nat) (l : Array Bool) (a : Act) (w : World),
      (∀ j oj, ops[j]? = some oj → j ≠ i → l.getD j true = false → (∀ e ∈ oj.after, Region.binds md e = true → e.on ≠ i) → oi.apart ops oj = true) →
      i ∈ Region.ready md ops l → YieldsIf P ops (fun _ => True) oi v a → Until C m l w →
      anyM P md ops Q C m f (l.setIfInBounds i true) (a.put oi.dst v) w → anyM P md ops Q C m (f + 1) l a w := by
  have one : ∀ (f : Nat) (l : Array Bool) (a : Act) (w : World), YieldsIf P ops (fun _ => True) oi v a → Until C m l w → anyM P md ops Q C m f (l.setIfInBounds i true) (a.put oi.dst v) w →
      wpOp P ops Q i (fun a' w' => Until C m (l.setIfInBounds i true) w' ∧ anyM P md ops Q C m f (l.setIfInBounds i true) a' w') a w :=
    fun f l a w hy hU H => hy.wpOp hi trivial ⟨fun h => hU (by rwa [getD_set_ne true him] at h), H⟩
  intro f
  induction f with
  | zero =>
    intro l a w _ hr hy hU H
    refine ⟨fun h => (by rw [h] at hr; cases hr), fun j hj => ?_⟩
    by_cases hji : j = i
    · subst hji; exact one 0 l a w hy hU H
    · have := ready_mono hj hji
      rw [H.1] at this; cases this
  | succ f ih =>
    intro l a w hfree hr hy hU H
    refine ⟨fun h => (by rw [h] at hr; cases hr), fun j hj => ?_⟩
    by_cases hji : j = i
    · subst hji; exact one (f + 1) l a w hy hU H
    · obtain ⟨hjun, oj, hoj, hall⟩ := mem_ready.1 hj
      have hiun := (mem_ready.1 hr).1
      have hno : ∀ e ∈ oj.after, Region.binds md e = true → e.on ≠ i := fun e he hb heq => both_no hiun (heq ▸ hall e he hb)
      have hstep := wpOp_putIf (S := fun _ => True) hoj (hfree j oj hoj hji hjun hno) (fun cs b => hsel i oi cs b hi) (fun cs b => hsel j oj cs b hoj) hQ hy (H.2 j (ready_mono hj hji))
      refine wpOp_mono (fun a' w' h3 => ?_) hstep
      have hU2 : Until C m (l.setIfInBounds j true) w' := fun hm => h3.2.1 (by rw [Array.setIfInBounds_comm _ _ (Ne.symm hji), getD_set_ne true him]; exact hm)
      refine ⟨hU2, ih (l.setIfInBounds j true) a' w' (fun k ok hk hki hun hno' => ?_) (ready_mono hr (Ne.symm hji)) h3.1 hU2 ?_⟩
      · refine hfree k ok hk hki ?_ hno'
        by_cases hjk : j = k
        · subst hjk; exact hjun
        · rw [getD_set_ne true hjk] at hun; exact hun
      · rw [Array.setIfInBounds_comm _ _ hji]
        exact h3.2.2
theorem anyM_take0 {i : Nat} {oi : Oper} {v : Value} {f : Nat} {l : Array Bool} {a : Act} {w : World} (hi : ops[i]? = some oi) (him : i ≠ m)
    (hs : Region.noSelect ops = true) (hf : Region.free md ops l i = true) (hr : (Region.ready md ops l).contains i = true)
    (hQ : ∀ c a w, Q (.panic c) (a.put oi.dst v) w → Q (.panic c) a w) (hy : YieldsIf P ops (fun _ => True) oi v a) (hU : Until C m l w)
    (h : anyM P md ops Q C m f (l.setIfInBounds i true) (a.put oi.dst v) w) : anyM P md ops Q C m (f + 1) l a w :=
  anyM_first0 hi him (Region.noSelect_spec hs) hQ f l a w (Region.free_spec hi hf) (by simpa using hr) hy hU h
def ReadyM (P : Program) (md : Region.Mode) (ops : Array Oper) (Q : Exit → Act → World → Prop) (C : World → Prop) (m : Nat) (f : Nat) (l : Array Bool) (a : Act) (w : World) (rs : List Nat) : Prop :=
  ∀ i ∈ rs, wpOp P ops Q i (fun a' w' => Until C m (l.setIfInBounds i true) w' ∧ anyM P md ops Q C m f (l.setIfInBounds i true) a' w') a w
theorem ReadyM.nil {f : Nat} {l : Array Bool} {a : Act} {w : World} : ReadyM P md ops Q C m f l a w [] := fun _ h => by cases h
theorem ReadyM.cons {f : Nat} {l : Array Bool} {a : Act} {w : World} {i : Nat} {o : Oper} {rs : List Nat} (ho : ops[i]? = some o)
    (h : ∀ K' : Act → World → Prop, Shut (∀ a w, Until C m (l.setIfInBounds i true) w → anyM P md ops Q C m f (l.setIfInBounds i true) a w → K' a w) → if Region.wanted o (yielded ops a.tmps) = true then Oper.wp P o a w K' Q else K' (a.put o.dst undef) w)
    (hs : ReadyM P md ops Q C m f l a w rs) : ReadyM P md ops Q C m f l a w (i :: rs) := fun j hj => by
  rcases List.mem_cons.1 hj with rfl | hj
  · exact wpOp_step ho (fun K' hK => h K' (fun a w hS hW => hK a w ⟨hS, hW⟩))
  · exact hs j hj
theorem anyM_ready {rs : List Nat} {f : Nat} {l : Array Bool} {a : Act} {w : World} (hr : Region.ready md ops l = rs) (hne : rs ≠ []) (h : ReadyM P md ops Q C m f l a w rs) : anyM P md ops Q C m (f + 1) l a w :=
  ⟨fun h0 => absurd (hr ▸ h0) hne, hr ▸ h⟩
theorem anyM_done {l : Array Bool} {a : Act} {w : World} (hr : Region.ready md ops l = []) (h : Q .normal a w) : ∀ f, anyM P md ops Q C m f l a w
  | 0 => ⟨hr, h⟩
  | _ + 1 => ⟨fun _ => h, by rw [hr]; simp⟩
theorem wp_region_until {id : Nat} {a : Act} {w : World} (C : World → Prop) (m : Nat) (hm : P.follows .mixedOrders = true)
    (h : anyM P .any ops Q C m ops.size (Array.replicate ops.size false) a w.drew) : (Code.region id ops true).wp P Q a w :=
  wp_region_any hm (anyM_any _ _ _ _ h)
end
end Go.Proofs.YtngbaljmlbdfkaaGreatDoor
