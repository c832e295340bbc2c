/- Parts of the proof, no condition: StTne, StTnf, OrdO. -/
import Derived.Test.YthdiccdnggloiaaGreatDoorSf19
import Derived.Test.YthdiccdnggloiaaGreatDoorSf16
import Derived.Test.YthdiccdnggloiaaGreatDoorSf17
import Derived.Test.YthdiccdnggloiaaGreatDoorSf9
import Derived.Test.YthdiccdnggloiaaGreatDoorSf1
set_option linter.unusedSimpArgs false
set_option linter.unusedVariables false
namespace Go.Proofs.YthdiccdnggloiaaGreatDoor
open Go.RowKit Go.Sort Go.Shelf Go.Maps
theorem FMap.of_block {w w' : World} {b : Nat} {L : List Fil} (h : FMap w b L) (e : w'.heap[b]? = w.heap[b]?) : FMap w' b L := by
 obtain ⟨D, ⟨es, clock, hb, F, hs, hD⟩, h2, h3⟩ := h
 exact ⟨D, ⟨es, clock, e.trans hb, F, hs, hD⟩, h2, h3⟩
theorem FMap.at_ {w : World} {b : Nat} {L : List Fil} (h : FMap w b L) : ∃ es clock, w.heap[b]? = some (.map es clock) := by
 obtain ⟨D, ⟨es, clock, hb, _⟩, _⟩ := h
 exact ⟨es, clock, hb⟩
theorem FMap.ne {w : World} {b q : Nat} {L : List Fil} {c : Array Value} {t : TypeId} (h : FMap w b L) (hb : Blk w q c t) : b ≠ q := by
 rintro rfl
 obtain ⟨es, clock, h1⟩ := h.at_
 have hb : w.heap[b]? = some (.cells c t (0, 0)) := hb
 rw [h1] at hb; cases hb
theorem FMap.neOwn {w : World} {b : Nat} {L : List Fil} {B k n : Nat} {e : TypeId} {v : Value} {xs : List Value} (h : FMap w b L) (ho : w.ownsRow B e k v n xs) : v.ownBlock ≠ some b := by
 intro hv
 obtain ⟨es, clock, h1⟩ := h.at_
 obtain ⟨c0, fz, h0⟩ := Lib.ownsRow_kind ho b hv
 rw [h1] at h0; cases h0
structure PlnIn (w : World) (pb B mb : Nat) (t : Sto) (ms : List Mov) (b : StA) (v : Value) : Prop where
 blk : Blk w pb #[.int .i64 t.least, .int .i64 t.wait, .slice b.ta t.tiers.length b.tc, .slice b.fa t.files.length b.fc, .slice b.ca t.copies.length b.cc, .slice b.ha t.held.length b.hc, .slice b.ba t.bin.length b.bc, .map (some mb), v] 161
 own : StOwn w B t b
 row : w.ownsRow B 52 4 v ms.length (St.eM.flat ms)
 map : FMap w mb t.files
 hab : ∀ g, (Value.slice b.ha t.held.length b.hc).ownBlock = some g → g < pb
theorem PlnIn.keep {w w' : World} {pb B mb : Nat} {t : Sto} {ms : List Mov} {b : StA} {v : Value} (h : PlnIn w pb B mb t ms b v) (hb : Below w.heap.size w w') : PlnIn w' pb B mb t ms b v :=
 ⟨h.blk.keep hb, h.own.keep hb, own_keepE h.row hb, h.map.keep hb, h.hab⟩
structure Turned (w w' : World) (pb : Nat) (v v' : Value) : Prop where
 far : PlFar w w' pb v
 new : ∀ g, v'.ownBlock = some g → v.ownBlock = some g ∨ w.heap.size ≤ g
theorem Turned.below {w w' : World} (h : Below w.heap.size w w') (pb : Nat) (v : Value) : Turned w w' pb v v :=
 ⟨⟨h.os, h.tape, h.output, h.size, fun q hq _ _ => h.block q hq⟩, fun g h => .inl h⟩
theorem Turned.refl (w : World) (pb : Nat) (v : Value) : Turned w w pb v v := Turned.below (Below.refl _ _) pb v
theorem Turned.trans {w w' w'' : World} {pb : Nat} {v v' v'' : Value} (h : Turned w w' pb v v') (h2 : Turned w' w'' pb v' v'') : Turned w w'' pb v v'' := by
 refine ⟨⟨h2.far.os.trans h.far.os, h2.far.tape.trans h.far.tape, h2.far.output.trans h.far.output, Nat.le_trans h.far.size h2.far.size, fun q hq hne hv => ?_⟩, fun g hg => ?_⟩
 ·rw [h2.far.block q (Nat.lt_of_lt_of_le hq h.far.size) hne ?_]
  ·exact h.far.block q hq hne hv
  ·intro e
   rcases h.new q e with h3 | h3
   ·exact hv h3
   ·omega
 ·rcases h2.new g hg with h3 | h3
  ·exact h.new g h3
  ·exact .inr (Nat.le_trans h.far.size h3)
theorem Turned.le {w w' : World} {pb : Nat} {v v' : Value} (h : Turned w w' pb v v') : w.heap.size ≤ w'.heap.size := h.far.size
theorem Turned.blk {w w' : World} {pb B k n q : Nat} {v v' : Value} {xs : List Value} {c : Array Value} {t : TypeId} (h : Turned w w' pb v v') (ho : w.ownsRow B 52 k v n xs) (hb : Blk w q c t) (hne : q ≠ pb) (ht : 52 ≠ t) : Blk w' q c t :=
 hb.of_block (h.far.block q (Array.getElem?_eq_some_iff.1 hb).1 hne (own_ne ho hb ht))
theorem Turned.row {w w' : World} {pb B k n B2 k2 m : Nat} {v v' u : Value} {xs ys : List Value} {e : TypeId} {c : Array Value} (h : Turned w w' pb v v') (ho : w.ownsRow B 52 k v n xs) (hP : Blk w pb c 161) (hr : OwnV w B2 e k2 u m ys) (ht : 52 ≠ e) (ht2 : e ≠ 161) : OwnV w' B2 e k2 u m ys := by
 rcases hr with hr | ⟨g0, cap, hr, hc⟩
 ·exact .inl hr
 ·refine .inr ⟨g0, cap, hr, hc.of_block ?_⟩
  obtain ⟨cur, h0, h1, h2⟩ := hc
  have hB : Blk w g0 cur e := h1
  refine h.far.block g0 (Array.getElem?_eq_some_iff.1 h1).1 ?_ (own_ne ho hB ht)
  rintro rfl
  have hP : w.heap[g0]? = some (.cells c 161 (0, 0)) := hP
  rw [h1] at hP
  cases hP
  exact ht2 rfl
def DidOk (w : World) (pb B mb : Nat) (t : Sto) (ms : List Mov) (v : Value) (e : Ending) (w' : World) : Prop := e = .returned (.tuple #[]) ∧ ∃ b' v', PlnIn w' pb B mb t ms b' v' ∧ Turned w w' pb v v'
theorem did_is (t : Sto) (b : StA) (mb pb B : Nat) (m : Mov) (ms : List Mov) (v : Value) (w : World) (h : PlnIn w pb B mb t ms b v) (hn : ms.length ≤ 900000) (hB : B ≤ w.heap.size) (r : St.Right t) (hz : m.dig.size ≤ 1048576 ∧ m.frm.size ≤ 1048576 ∧ m.dst.size ≤ 1048576)
  (hk : m.kind = 2 ∨ St.mvE t m = 0) :
  Calls Tryz.prog 121 #[.pointer (some ⟨pb, 0, none⟩), .agg #[.int .i64 m.kind, .string m.dig, .string m.frm, .string m.dst]] w (DidOk w pb B mb (St.mvS t m) (ms ++ [m]) v) := by
 have hs : ∃ CS, St.mvS t m = { t with copies := CS } := by
  unfold St.mvS
  split
  ·exact ⟨_, rfl⟩
  ·exact ⟨_, rfl⟩
 have hfl : (St.mvS t m).files = t.files := (St.mvS_same t m).2.1
 have hI := h.own.in_ (StSz.right r)
 refine (do_gen t (St.mvS t m) b mb pb B m ms v w h.blk h.own h.row hn hB hs (fun V hV => ?_)).mono ?_
 ·have hIV := hI.keep hV
  rcases hk with hk | hk
  ·exact made_drop t b mb m V hIV r hz hk
  ·exact made_is t b mb m V hIV r hz hk
 ·rintro e w' ⟨rfl, b', v', h1, h2, h3, h4, h5, h6, h7⟩
  refine ⟨rfl, b', v', ⟨h1, h2, h3, ?_, ?_⟩, ⟨h5, h4⟩⟩
  rotate_left
  ·rw [h6, h7, (St.mvS_same t m).2.2.1]; exact h.hab
  rw [hfl]
  exact h.map.of_block (h5.block mb h.map.lt (h.map.ne h.blk) (h.map.neOwn h.row))
namespace St
theorem run_len (F : List Fil) (b : Int) : ∀ (L : List Cop) (f : Int), (run F b L f).1.length ≤ L.length
 | [], f => Nat.le_refl _
 | c :: L, f => by
   by_cases hb : b ≤ f
   ·rw [run_stop hb]; simp
   ·rw [run_next hb]
    have := run_len F b L (f + sizeOf F c.dig)
    simp only [List.length_cons]; omega
theorem goersL_len (s : Sto) (t : ByteArray) : (goersL s t).length ≤ 2 * s.copies.length := by
 unfold goersL
 split
 ·rename_i h
  obtain ⟨M, e, hp, _⟩ := h.choose_spec
  rw [e, List.length_append, hp.length_eq]
  have h1 := List.length_filter_le (evA s t) s.copies
  have h2 := List.length_filter_le (evB s t) s.copies
  unfold evG evK
  omega
 ·simp
theorem evM_len (s : Sto) (t : Tir) (b : Int) : (evM s t b).length ≤ 2 * s.copies.length := by
 unfold evM evR
 rw [List.length_map]
 exact Nat.le_trans (run_len _ _ _ _) (goersL_len _ _)
theorem evM_size {s : Sto} (r : Right s) {t : Tir} (ht : t ∈ s.tiers) (b : Int) : ∀ m ∈ evM s t b, m.dig.size ≤ 1048576 ∧ m.frm.size ≤ 1048576 ∧ m.dst.size ≤ 1048576 := by
 intro m hm
 obtain ⟨c, hc, rfl⟩ := List.mem_map.1 hm
 have h1 := (goersL_mem c (run_sub _ _ _ _ c hc)).1
 have h2 := cop_dig r h1
 have h3 := name40 (tier_good r ht).1
 exact ⟨by show c.dig.size ≤ _; omega, by show t.name.size ≤ _; omega, by show ByteArray.empty.size ≤ _; decide⟩
end St
theorem more1_is (x : Tir) (w : World) : Calls Tryz.prog 183 #[.agg #[.string x.name, .int .i64 x.room, .int .i64 x.cost, .bool x.away]] w fun e w' => e = .returned (.bool x.away) ∧ Below w.heap.size w w' := by
 obtain ⟨W1, hW1, hP, hz1, hB1⟩ := box w #[.string x.name, .int .i64 x.room, .int .i64 x.cost, .bool x.away] 46
 have HW1 := Lib.hid hW1
 obtain ⟨m0, m1, m2, m3⟩ := hP.four
 clear hW1
 go_enter Tryz.func183, Tryz.ntmps183
 go_upto_region 1 with fail
 rw [HW1.out]
 go_wp2_with fail
 go_ret
 exact ⟨rfl, hB1⟩
theorem more2_is (x : Tir) (w : World) : Calls Tryz.prog 184 #[.agg #[.string x.name, .int .i64 x.room, .int .i64 x.cost, .bool x.away]] w fun e w' => e = .returned (.bool true) ∧ Below w.heap.size w w' := by
 obtain ⟨W1, hW1, hP, hz1, hB1⟩ := box w #[.string x.name, .int .i64 x.room, .int .i64 x.cost, .bool x.away] 46
 have HW1 := Lib.hid hW1
 clear hW1
 go_enter Tryz.func184, Tryz.ntmps184
 go_upto_region 1 with fail
 rw [HW1.out]
 go_wp2_with fail
 go_ret
 exact ⟨rfl, hB1⟩
theorem enters_m1 : ∀ args w, (callFunc 183 args).run Tryz.prog w = .ok (.enter 183 args) w := enters_of Tryz.func183 (by kernel_rfl) rfl
theorem enters_m2 : ∀ args w, (callFunc 184 args).run Tryz.prog w = .ok (.enter 184 args) w := enters_of Tryz.func184 (by kernel_rfl) rfl
theorem Turned.row2 {w w' : World} {pb B2 k2 m : Nat} {v v' u : Value} {ys : List Value} {e : TypeId} (h : Turned w w' pb v v') (hr : OwnV w B2 e k2 u m ys) (hv : ∀ g, v.ownBlock = some g → g < B2) (hpb : pb < B2) : OwnV w' B2 e k2 u m ys := by
 rcases hr with hr | ⟨g0, cap, hr, hc⟩
 ·exact .inl hr
 ·have hl := hc.lt
  exact .inr ⟨g0, cap, hr, hc.of_block (h.far.block g0 hl.2 (by omega) (fun e2 => by have := hv g0 e2; omega))⟩
def MorePost (w : World) (pb B mb : Nat) (t : Sto) (ms : List Mov) (d : ByteArray) (v : Value) (e : Ending) (w' : World) : Prop :=
 match St.mor t d with
 | none => e = .returned (.bool false) ∧ ∃ b' v', PlnIn w' pb B mb t ms b' v' ∧ Turned w w' pb v v'
 | some u => e = .returned (.bool true) ∧ ∃ b' v', PlnIn w' pb B mb (St.mvs t (St.morM t d u)) (ms ++ St.morM t d u) b' v' ∧ Turned w w' pb v v'
end Go.Proofs.YthdiccdnggloiaaGreatDoor
namespace Go.Proofs.YthdiccdnggloiaaGreatDoor
open Go
section
variable {P : Program} {ops : Array Oper} {Q : Exit → Act → World → Prop} {md : Region.Mode} {C : World → Prop} {m k q : Nat}
theorem anyM_firstVia2 {i : Nat} {oi om ok oq : Oper} {v : Value} (hi : ops[i]? = some oi) (hom : ops[m]? = some om) (hok : ops[k]? = some ok) (hoq : ops[q]? = some oq) (hwm : ∃ e ∈ om.after, Region.binds md e = true ∧ e.on = q) (hwq : ∃ e ∈ oq.after, Region.binds md e = true ∧ e.on = k) (hwk : ∃ e ∈ ok.after, Region.binds md e = true ∧ e.on = i) (him : i ≠ m) (hik : i ≠ k) (hkm : k ≠ m)
  (hsel : ∀ (j : Nat) (o : Oper) cs b, ops[j]? = some o → o.op ≠ .select cs b) (hQ : ∀ c a w, Q (.panic c) (a.put oi.dst v) w → Q (.panic c) a w) :
  ∀ (f : Nat) (l : Array Bool) (a : Act) (w : World),
    (∀ j oj, ops[j]? = some oj → j ≠ i → j ≠ m → l.getD j true = false → (∀ e ∈ oj.after, Region.binds md e = true → e.on ≠ i) → oi.apart ops oj = true) →
    i ∈ Region.ready md ops l → YieldsIf P ops C oi v a → l.getD m true = false → l.getD k true = false → l.getD q true = false → C w →
    anyM P md ops Q C m f (l.setIfInBounds i true) (a.put oi.dst v) w → anyM P md ops Q C m (f + 1) l a w := by
 have one : ∀ (f : Nat) (l : Array Bool) (a : Act) (w : World), YieldsIf P ops C oi v a → C w → anyM P md ops Q C m f (l.setIfInBounds i true) (a.put oi.dst v) w →
   wpOp P ops Q i (fun a' w' => Until C m (l.setIfInBounds i true) w' ∧ anyM P md ops Q C m f (l.setIfInBounds i true) a' w') a w :=
  fun f l a w hy hC H => hy.wpOp hi hC ⟨fun _ => hC, H⟩
 intro f
 induction f with
 | zero =>
   intro l a w _ hr hy _ _ _ hC H
   refine ⟨fun h => (by rw [h] at hr; cases hr), fun j hj => ?_⟩
   by_cases hji : j = i
   ·subst hji; exact one 0 l a w hy hC H
   ·have := ready_mono hj hji
    rw [H.1] at this; cases this
 | succ f ih =>
   intro l a w hfree hr hy hm hk hq hC H
   refine ⟨fun h => (by rw [h] at hr; cases hr), fun j hj => ?_⟩
   by_cases hji : j = i
   ·subst hji; exact one (f + 1) l a w hy hC H
   ·obtain ⟨hjun, oj, hoj, hall⟩ := mem_ready.1 hj
    have hiun := (mem_ready.1 hr).1
    have hno : ∀ e ∈ oj.after, Region.binds md e = true → e.on ≠ i := fun e he hb heq => both_no hiun (heq ▸ hall e he hb)
    have hjk : j ≠ k := by
     rintro rfl
     rw [hok] at hoj
     injection hoj with hoj
     subst hoj
     obtain ⟨e, he, hb, heq⟩ := hwk
     exact hno e he hb heq
    have hjm : j ≠ m := by
     rintro rfl
     rw [hom] at hoj
     injection hoj with hoj
     subst hoj
     obtain ⟨e, he, hb, heq⟩ := hwm
     exact both_no hq (heq ▸ hall e he hb)
    have hjq : j ≠ q := by
     rintro rfl
     rw [hoq] at hoj
     injection hoj with hoj
     subst hoj
     obtain ⟨e, he, hb, heq⟩ := hwq
     exact both_no hk (heq ▸ hall e he hb)
    have hstep := wpOp_putIf hoj (hfree j oj hoj hji hjm hjun hno) (fun cs b => hsel i oi cs b hi) (fun cs b => hsel j oj cs b hoj) hQ hy (H.2 j (ready_mono hj hji))
    have hm' : (l.setIfInBounds j true).getD m true = false := by rw [getD_set_ne true hjm]; exact hm
    have hk' : (l.setIfInBounds j true).getD k true = false := by rw [getD_set_ne true hjk]; exact hk
    have hq' : (l.setIfInBounds j true).getD q true = false := by rw [getD_set_ne true hjq]; exact hq
    have hm2 : ((l.setIfInBounds i true).setIfInBounds j true).getD m true = false := by rw [getD_set_ne true hjm, getD_set_ne true him]; exact hm
    refine wpOp_mono (fun a' w' h3 => ⟨fun _ => h3.2.1 hm2, ih (l.setIfInBounds j true) a' w' (fun k2 ok2 hk2 hki hkm2 hun hno' => ?_) (ready_mono hr (Ne.symm hji)) h3.1 hm' hk' hq' (h3.2.1 hm2) ?_⟩) hstep
    ·refine hfree k2 ok2 hk2 hki hkm2 ?_ hno'
     by_cases hjk2 : j = k2
     ·subst hjk2; exact hjun
     ·rw [getD_set_ne true hjk2] at hun; exact hun
    ·rw [Array.setIfInBounds_comm _ _ hji]
     exact h3.2.2
theorem anyM_takeVia2 {i : Nat} {oi om ok oq : Oper} {v : Value} {f : Nat} {l : Array Bool} {a : Act} {w : World} (hi : ops[i]? = some oi) (hom : ops[m]? = some om) (hok : ops[k]? = some ok) (hoq : ops[q]? = some oq) (hwm : (om.after.any fun e => Region.binds md e && e.on == q) = true) (hwq : (oq.after.any fun e => Region.binds md e && e.on == k) = true) (hwk : (ok.after.any fun e => Region.binds md e && e.on == i) = true) (him : i ≠ m) (hik : i ≠ k) (hkm : k ≠ m)
  (hs : Region.noSelect ops = true) (hf : Region.free md ops (l.setIfInBounds m true) i = true) (hr : (Region.ready md ops l).contains i = true)
  (hQ : ∀ c a w, Q (.panic c) (a.put oi.dst v) w → Q (.panic c) a w) (hy : YieldsIf P ops C oi v a) (hm : l.getD m true = false) (hk : l.getD k true = false) (hq : l.getD q true = false) (hC : C w)
  (h : anyM P md ops Q C m f (l.setIfInBounds i true) (a.put oi.dst v) w) : anyM P md ops Q C m (f + 1) l a w := by
 have un : ∀ {o : Oper} {z : Nat}, (o.after.any fun e => Region.binds md e && e.on == z) = true → ∃ e ∈ o.after, Region.binds md e = true ∧ e.on = z := fun h => by
  obtain ⟨j, hj, hb⟩ := Array.any_eq_true.1 h
  rw [Bool.and_eq_true] at hb
  exact ⟨_, Array.getElem_mem hj, hb.1, by simpa using hb.2⟩
 refine anyM_firstVia2 hi hom hok hoq (un hwm) (un hwq) (un hwk) him hik hkm (Region.noSelect_spec hs) hQ f l a w (fun j oj hj hji hjm hun hno => ?_) (by simpa using hr) hy hm hk hq hC h
 exact Region.free_spec hi hf j oj hj hji (by rw [getD_set_ne true (Ne.symm hjm)]; exact hun) hno
end
end Go.Proofs.YthdiccdnggloiaaGreatDoor
