/- Parts of the proof, no condition: StTne, StTnf, StEvR, StCnt. -/
import Derived.Test.YthdiccdnggloiaaGreatDoorPl21
import Derived.Test.YthdiccdnggloiaaGreatDoorPl18
import Derived.Test.YthdiccdnggloiaaGreatDoorPl19
import Derived.Test.YthdiccdnggloiaaGreatDoorPl10
import Derived.Test.YthdiccdnggloiaaGreatDoorPl7
import Derived.Test.YthdiccdnggloiaaGreatDoorPl9
set_option maxRecDepth 100000
set_option maxHeartbeats 8000000
set_option linter.unusedSimpArgs false
set_option linter.unusedVariables false
namespace Go.Proofs.YthdiccdnggloiaaGreatDoor
open Go.RowKit Go.Sort Go.Shelf Go.Maps
theorem FMap.of_block {w w' : World} {b : Nat} {L : List Fil} (h : FMap w b L) (e : w'.heap[b]? = w.heap[b]?) : FMap w' b L := by
 obtain ⟨D, ⟨es, clock, hb, F, hs, hD⟩, h2, h3⟩ := h
 exact ⟨D, ⟨es, clock, e.trans hb, F, hs, hD⟩, h2, h3⟩
theorem FMap.at_ {w : World} {b : Nat} {L : List Fil} (h : FMap w b L) : ∃ es clock, w.heap[b]? = some (.map es clock) := by
 obtain ⟨D, ⟨es, clock, hb, _⟩, _⟩ := h
 exact ⟨es, clock, hb⟩
theorem FMap.ne {w : World} {b q : Nat} {L : List Fil} {c : Array Value} {t : TypeId} (h : FMap w b L) (hb : Blk w q c t) : b ≠ q := by
 rintro rfl
 obtain ⟨es, clock, h1⟩ := h.at_
 have hb : w.heap[b]? = some (.cells c t (0, 0)) := hb
 rw [h1] at hb; cases hb
theorem FMap.neOwn {w : World} {b : Nat} {L : List Fil} {B k n : Nat} {e : TypeId} {v : Value} {xs : List Value} (h : FMap w b L) (ho : w.ownsRow B e k v n xs) : v.ownBlock ≠ some b := by
 intro hv
 obtain ⟨es, clock, h1⟩ := h.at_
 obtain ⟨c0, fz, h0⟩ := Lib.ownsRow_kind ho b hv
 rw [h1] at h0; cases h0
structure PlnIn (w : World) (pb B mb : Nat) (t : Sto) (ms : List Mov) (b : StA) (v : Value) : Prop where
 blk : Blk w pb #[.int .i64 t.least, .int .i64 t.wait, .slice b.ta t.tiers.length b.tc, .slice b.fa t.files.length b.fc, .slice b.ca t.copies.length b.cc, .slice b.ha t.held.length b.hc, .slice b.ba t.bin.length b.bc, .map (some mb), v] 161
 own : StOwn w B t b
 row : w.ownsRow B 52 4 v ms.length (St.eM.flat ms)
 map : FMap w mb t.files
 hab : ∀ g, (Value.slice b.ha t.held.length b.hc).ownBlock = some g → g < pb
theorem PlnIn.keep {w w' : World} {pb B mb : Nat} {t : Sto} {ms : List Mov} {b : StA} {v : Value} (h : PlnIn w pb B mb t ms b v) (hb : Below w.heap.size w w') : PlnIn w' pb B mb t ms b v :=
 ⟨h.blk.keep hb, h.own.keep hb, own_keepE h.row hb, h.map.keep hb, h.hab⟩
structure Turned (w w' : World) (pb : Nat) (v v' : Value) : Prop where
 far : PlFar w w' pb v
 new : ∀ g, v'.ownBlock = some g → v.ownBlock = some g ∨ w.heap.size ≤ g
theorem Turned.below {w w' : World} (h : Below w.heap.size w w') (pb : Nat) (v : Value) : Turned w w' pb v v :=
 ⟨⟨h.os, h.tape, h.output, h.size, fun q hq _ _ => h.block q hq⟩, fun g h => .inl h⟩
theorem Turned.refl (w : World) (pb : Nat) (v : Value) : Turned w w pb v v := Turned.below (Below.refl _ _) pb v
theorem Turned.trans {w w' w'' : World} {pb : Nat} {v v' v'' : Value} (h : Turned w w' pb v v') (h2 : Turned w' w'' pb v' v'') : Turned w w'' pb v v'' := by
 refine ⟨⟨h2.far.os.trans h.far.os, h2.far.tape.trans h.far.tape, h2.far.output.trans h.far.output, Nat.le_trans h.far.size h2.far.size, fun q hq hne hv => ?_⟩, fun g hg => ?_⟩
 ·rw [h2.far.block q (Nat.lt_of_lt_of_le hq h.far.size) hne ?_]
  ·exact h.far.block q hq hne hv
  ·intro e
   rcases h.new q e with h3 | h3
   ·exact hv h3
   ·omega
 ·rcases h2.new g hg with h3 | h3
  ·exact h.new g h3
  ·exact .inr (Nat.le_trans h.far.size h3)
theorem Turned.le {w w' : World} {pb : Nat} {v v' : Value} (h : Turned w w' pb v v') : w.heap.size ≤ w'.heap.size := h.far.size
theorem Turned.blk {w w' : World} {pb B k n q : Nat} {v v' : Value} {xs : List Value} {c : Array Value} {t : TypeId} (h : Turned w w' pb v v') (ho : w.ownsRow B 52 k v n xs) (hb : Blk w q c t) (hne : q ≠ pb) (ht : 52 ≠ t) : Blk w' q c t :=
 hb.of_block (h.far.block q (Array.getElem?_eq_some_iff.1 hb).1 hne (own_ne ho hb ht))
theorem Turned.row {w w' : World} {pb B k n B2 k2 m : Nat} {v v' u : Value} {xs ys : List Value} {e : TypeId} {c : Array Value} (h : Turned w w' pb v v') (ho : w.ownsRow B 52 k v n xs) (hP : Blk w pb c 161) (hr : OwnV w B2 e k2 u m ys) (ht : 52 ≠ e) (ht2 : e ≠ 161) : OwnV w' B2 e k2 u m ys := by
 rcases hr with hr | ⟨g0, cap, hr, hc⟩
 ·exact .inl hr
 ·refine .inr ⟨g0, cap, hr, hc.of_block ?_⟩
  obtain ⟨cur, h0, h1, h2⟩ := hc
  have hB : Blk w g0 cur e := h1
  refine h.far.block g0 (Array.getElem?_eq_some_iff.1 h1).1 ?_ (own_ne ho hB ht)
  rintro rfl
  have hP : w.heap[g0]? = some (.cells c 161 (0, 0)) := hP
  rw [h1] at hP
  cases hP
  exact ht2 rfl
def DidOk (w : World) (pb B mb : Nat) (t : Sto) (ms : List Mov) (v : Value) (e : Ending) (w' : World) : Prop := e = .returned (.tuple #[]) ∧ ∃ b' v', PlnIn w' pb B mb t ms b' v' ∧ Turned w w' pb v v'
theorem did_is (t : Sto) (b : StA) (mb pb B : Nat) (m : Mov) (ms : List Mov) (v : Value) (w : World) (h : PlnIn w pb B mb t ms b v) (hn : ms.length ≤ 900000) (hB : B ≤ w.heap.size) (r : St.Right t) (hz : m.dig.size ≤ 1048576 ∧ m.frm.size ≤ 1048576 ∧ m.dst.size ≤ 1048576)
  (hk : m.kind = 2 ∨ St.mvE t m = 0) :
  Calls Tryz.prog 121 #[.pointer (some ⟨pb, 0, none⟩), .agg #[.int .i64 m.kind, .string m.dig, .string m.frm, .string m.dst]] w (DidOk w pb B mb (St.mvS t m) (ms ++ [m]) v) := by
 have hs : ∃ CS, St.mvS t m = { t with copies := CS } := by
  unfold St.mvS
  split
  ·exact ⟨_, rfl⟩
  ·exact ⟨_, rfl⟩
 have hfl : (St.mvS t m).files = t.files := (St.mvS_same t m).2.1
 have hI := h.own.in_ (StSz.right r)
 refine (do_gen t (St.mvS t m) b mb pb B m ms v w h.blk h.own h.row hn hB hs (fun V hV => ?_)).mono ?_
 ·have hIV := hI.keep hV
  rcases hk with hk | hk
  ·exact made_drop t b mb m V hIV r hz hk
  ·exact made_is t b mb m V hIV r hz hk
 ·rintro e w' ⟨rfl, b', v', h1, h2, h3, h4, h5, h6, h7⟩
  refine ⟨rfl, b', v', ⟨h1, h2, h3, ?_, ?_⟩, ⟨h5, h4⟩⟩
  rotate_left
  ·rw [h6, h7, (St.mvS_same t m).2.2.1]; exact h.hab
  rw [hfl]
  exact h.map.of_block (h5.block mb h.map.lt (h.map.ne h.blk) (h.map.neOwn h.row))
namespace St
theorem run_len (F : List Fil) (b : Int) : ∀ (L : List Cop) (f : Int), (run F b L f).1.length ≤ L.length
 | [], f => Nat.le_refl _
 | c :: L, f => by
   by_cases hb : b ≤ f
   ·rw [run_stop hb]; simp
   ·rw [run_next hb]
    have := run_len F b L (f + sizeOf F c.dig)
    simp only [List.length_cons]; omega
theorem goersL_len (s : Sto) (t : ByteArray) : (goersL s t).length ≤ 2 * s.copies.length := by
 unfold goersL
 split
 ·rename_i h
  obtain ⟨M, e, hp, _⟩ := h.choose_spec
  rw [e, List.length_append, hp.length_eq]
  have h1 := List.length_filter_le (evA s t) s.copies
  have h2 := List.length_filter_le (evB s t) s.copies
  unfold evG evK
  omega
 ·simp
theorem evM_len (s : Sto) (t : Tir) (b : Int) : (evM s t b).length ≤ 2 * s.copies.length := by
 unfold evM evR
 rw [List.length_map]
 exact Nat.le_trans (run_len _ _ _ _) (goersL_len _ _)
theorem evM_size {s : Sto} (r : Right s) {t : Tir} (ht : t ∈ s.tiers) (b : Int) : ∀ m ∈ evM s t b, m.dig.size ≤ 1048576 ∧ m.frm.size ≤ 1048576 ∧ m.dst.size ≤ 1048576 := by
 intro m hm
 obtain ⟨c, hc, rfl⟩ := List.mem_map.1 hm
 have h1 := (goersL_mem c (run_sub _ _ _ _ c hc)).1
 have h2 := cop_dig r h1
 have h3 := name40 (tier_good r ht).1
 exact ⟨by show c.dig.size ≤ _; omega, by show t.name.size ≤ _; omega, by show ByteArray.empty.size ≤ _; decide⟩
end St
theorem more1_is (x : Tir) (w : World) : Calls Tryz.prog 183 #[.agg #[.string x.name, .int .i64 x.room, .int .i64 x.cost, .bool x.away]] w fun e w' => e = .returned (.bool x.away) ∧ Below w.heap.size w w' := by
 obtain ⟨W1, hW1, hP, hz1, hB1⟩ := box w #[.string x.name, .int .i64 x.room, .int .i64 x.cost, .bool x.away] 46
 have HW1 := Lib.hid hW1
 obtain ⟨m0, m1, m2, m3⟩ := hP.four
 clear hW1
 go_enter Tryz.func183, Tryz.ntmps183
 go_upto_region 1 with fail
 rw [HW1.out]
 go_wp2_with fail
 go_ret
 exact ⟨rfl, hB1⟩
theorem more2_is (x : Tir) (w : World) : Calls Tryz.prog 184 #[.agg #[.string x.name, .int .i64 x.room, .int .i64 x.cost, .bool x.away]] w fun e w' => e = .returned (.bool true) ∧ Below w.heap.size w w' := by
 obtain ⟨W1, hW1, hP, hz1, hB1⟩ := box w #[.string x.name, .int .i64 x.room, .int .i64 x.cost, .bool x.away] 46
 have HW1 := Lib.hid hW1
 clear hW1
 go_enter Tryz.func184, Tryz.ntmps184
 go_upto_region 1 with fail
 rw [HW1.out]
 go_wp2_with fail
 go_ret
 exact ⟨rfl, hB1⟩
theorem enters_m1 : ∀ args w, (callFunc 183 args).run Tryz.prog w = .ok (.enter 183 args) w := enters_of Tryz.func183 (by kernel_rfl) rfl
theorem enters_m2 : ∀ args w, (callFunc 184 args).run Tryz.prog w = .ok (.enter 184 args) w := enters_of Tryz.func184 (by kernel_rfl) rfl
theorem Turned.row2 {w w' : World} {pb B2 k2 m : Nat} {v v' u : Value} {ys : List Value} {e : TypeId} (h : Turned w w' pb v v') (hr : OwnV w B2 e k2 u m ys) (hv : ∀ g, v.ownBlock = some g → g < B2) (hpb : pb < B2) : OwnV w' B2 e k2 u m ys := by
 rcases hr with hr | ⟨g0, cap, hr, hc⟩
 ·exact .inl hr
 ·have hl := hc.lt
  exact .inr ⟨g0, cap, hr, hc.of_block (h.far.block g0 hl.2 (by omega) (fun e2 => by have := hv g0 e2; omega))⟩
def MorePost (w : World) (pb B mb : Nat) (t : Sto) (ms : List Mov) (d : ByteArray) (v : Value) (e : Ending) (w' : World) : Prop :=
 match St.mor t d with
 | none => e = .returned (.bool false) ∧ ∃ b' v', PlnIn w' pb B mb t ms b' v' ∧ Turned w w' pb v v'
 | some u => e = .returned (.bool true) ∧ ∃ b' v', PlnIn w' pb B mb (St.mvs t (St.morM t d u)) (ms ++ St.morM t d u) b' v' ∧ Turned w w' pb v v'
end Go.Proofs.YthdiccdnggloiaaGreatDoor
namespace Go.Proofs.YthdiccdnggloiaaGreatDoor
open Go.RowKit
namespace St
theorem ev_ins {M : List Cop} {c : Cop} {p : Nat} (hM : M.Pairwise evLt) (hk : ∀ y ∈ M, lt (ckey y) (ckey c) = true) (hd : ∀ y ∈ M.drop p, c.asked < y.asked) (hp : p = 0 ∨ ∃ y, M[p - 1]? = some y ∧ y.asked ≤ c.asked) : (M.take p ++ c :: M.drop p).Pairwise evLt := by
 refine Stb.put_sorted ev_ord (by rw [List.take_append_drop]; exact hM) (fun y hy => ?_) (fun y hy => .inl (hd y hy))
 have hyM := List.mem_of_mem_take hy
 have hle : y.asked ≤ c.asked := by
  rcases hp with rfl | ⟨x, hx, hxc⟩
  ·simp at hy
  ·obtain ⟨i, hi⟩ := List.getElem?_of_mem hy
   have hip : i < p := by
    have := (List.getElem?_eq_some_iff.1 hi).1
    rw [List.length_take] at this; omega
   rw [List.getElem?_take_of_lt hip] at hi
   by_cases e : i = p - 1
   ·subst e
    rw [hi] at hx
    cases hx
    exact hxc
   ·obtain ⟨h1, h2⟩ := List.getElem?_eq_some_iff.1 hi
    obtain ⟨h3, h4⟩ := List.getElem?_eq_some_iff.1 hx
    have := List.pairwise_iff_getElem.1 hM i (p - 1) h1 h3 (by omega)
    rw [h2, h4] at this
    rcases this with g | ⟨g, _⟩ <;> omega
 by_cases e : y.asked = c.asked
 ·exact .inr ⟨e, hk y hyM⟩
 ·exact .inl (by omega)
theorem ev_perm {M K : List Cop} {c : Cop} {p : Nat} (h : List.Perm M K) : List.Perm (M.take p ++ c :: M.drop p) (K ++ [c]) := by
 refine List.perm_middle.trans ?_
 rw [List.take_append_drop]
 exact (List.Perm.cons c h).trans (List.perm_append_singleton c K).symm
theorem ev_in {s : Sto} (r : Right s) {t : ByteArray} {j : Nat} {c : Cop} (hc : s.copies[j]? = some c) {M : List Cop} (hM : List.Perm M ((s.copies.take j).filter (evB s t))) : c ∈ evG s t ++ M ↔ evA s t c = true := by
 have hmem := List.mem_of_getElem? hc
 rw [List.mem_append]
 constructor
 ·rintro (h | h)
  ·exact (List.mem_filter.1 h).2
  ·exfalso
   have h := (List.mem_filter.1 (hM.mem_iff.1 h)).1
   obtain ⟨i, hi⟩ := List.getElem?_of_mem h
   have hij : i < j := by
    have := (List.getElem?_eq_some_iff.1 hi).1
    rw [List.length_take] at this; omega
   rw [List.getElem?_take_of_lt hij] at hi
   obtain ⟨h1, h2⟩ := List.getElem?_eq_some_iff.1 hi
   obtain ⟨h3, h4⟩ := List.getElem?_eq_some_iff.1 hc
   have := List.pairwise_iff_getElem.1 (cop_up r) i j h1 h3 hij
   rw [h2, h4, lt_irr] at this
   cases this
 ·intro h
  exact .inl (List.mem_filter.2 ⟨hmem, h⟩)
theorem ev_ahead {s : Sto} (r : Right s) {t : ByteArray} {j : Nat} {c : Cop} (hc : s.copies[j]? = some c) {M : List Cop} (hM : List.Perm M ((s.copies.take j).filter (evB s t))) : ∀ y ∈ M, lt (ckey y) (ckey c) = true := by
 intro y hy
 have h := (List.mem_filter.1 (hM.mem_iff.1 hy)).1
 obtain ⟨i, hi⟩ := List.getElem?_of_mem h
 have hij : i < j := by
  have := (List.getElem?_eq_some_iff.1 hi).1
  rw [List.length_take] at this; omega
 rw [List.getElem?_take_of_lt hij] at hi
 obtain ⟨h1, h2⟩ := List.getElem?_eq_some_iff.1 hi
 obtain ⟨h3, h4⟩ := List.getElem?_eq_some_iff.1 hc
 have := List.pairwise_iff_getElem.1 (cop_up r) i j h1 h3 hij
 rwa [h2, h4] at this
theorem evG_eq (s : Sto) (t : ByteArray) : (garbageL s).filter (fun c => eq c.tier t) = evG s t := by
 unfold garbageL evG evA
 rw [List.filter_filter]
end St
end Go.Proofs.YthdiccdnggloiaaGreatDoor
namespace Go.Proofs.YthdiccdnggloiaaGreatDoor
open Go.RowKit Go.Sort Go.Shelf Go.Maps
theorem eqlCop (z x : Cop) (w : World) : ∃ b : Bool, (b = true ↔ z = x) ∧ Sem.run Tryz.prog (binOp .eql 74 (.agg #[.string z.dig, .string z.tier, .bool z.good, .int .i64 z.asked]) (.agg #[.string x.dig, .string x.tier, .bool x.good, .int .i64 x.asked])) w = .ok (.bool b) w := by
 have u3 := Tryz.underlying3
 have a3 := Tryz.isAgg3
 have z3 := Tryz.sizeOf3
 have u9 := Tryz.underlying9
 have a9 := Tryz.isAgg9
 have z9 := Tryz.sizeOf9
 have u4 := Tryz.underlying4
 have a4 := Tryz.isAgg4
 have z4 := Tryz.sizeOf4
 have hS : Tryz.prog.underlying 74 = some (.struct (Tryz.prog.fieldsOf 74)) := by kernel_rfl
 have hp : Tryz.prog.stoodInHeld 74 = false := by kernel_rfl
 obtain ⟨zd, zt, zg, za⟩ := z
 obtain ⟨xd, xt, xg, xa⟩ := x
 refine ⟨(zd.toList == xd.toList) && ((zt.toList == xt.toList) && ((zg == xg) && (za == xa))), ?_, ?_⟩
 ·constructor
  ·intro h
   simp only [Bool.and_eq_true] at h
   obtain ⟨h1, h2, h3, h4⟩ := h
   have i1 : zd = xd := St.eq_iff.1 h1
   have i2 : zt = xt := St.eq_iff.1 h2
   have i3 : zg = xg := by simpa using h3
   have i4 : za = xa := by simpa using h4
   subst i1 i2 i3 i4
   rfl
  ·intro h
   cases h
   simp
 ·rw [run_eql_struct, show (10000 : Nat) = 9999 + 1 from rfl, run_equalIn_agg w 9999 74 _ _ hS hp]
  simp only [Program.fieldsOf, Tryz.underlying74]
  cases h1 : (zd.toList == xd.toList) <;> cases h2 : (zt.toList == xt.toList) <;> cases zg <;> cases xg <;> cases h4 : (za == xa)
  all_goals
   go_simp
   try simp
theorem idxC_is (L : List Cop) (sa : Option Addr) (sc : Nat) (z : Cop) (w : World) (hr : RowE St.eC w sa L) (hl : L.length ≤ sc ∧ sc ≤ 9223372036854775807) :
  Calls Tryz.prog 205 #[.slice sa L.length sc, .agg #[.string z.dig, .string z.tier, .bool z.good, .int .i64 z.asked]] w fun e w' => (∃ r : Int, e = .returned (.int .i64 r) ∧ (0 ≤ r ↔ z ∈ L)) ∧ Below w.heap.size w w' := by
 obtain ⟨W1, hW1, hP, hz1, hB1⟩ := box w #[.string z.dig, .string z.tier, .bool z.good, .int .i64 z.asked] 74
 have HW1 := Lib.hid hW1; have HB1 := Lib.hid hB1
 have HR := Lib.hid (hr.keep hB1)
 have HZ : Hid (∀ V, Below W1.heap.size W1 V → V.cell? ⟨w.heap.size, 0, none⟩ = some (.string z.dig) ∧ V.cell? ⟨w.heap.size, 1, none⟩ = some (.string z.tier) ∧ V.cell? ⟨w.heap.size, 2, none⟩ = some (.bool z.good) ∧ V.cell? ⟨w.heap.size, 3, none⟩ = some (.int .i64 z.asked)) := Lib.hid fun V hv => (hP.keep hv).four
 have HQ : Hid (∀ r : Int, (0 ≤ r ↔ z ∈ L.drop 0) → (0 ≤ r ↔ z ∈ L)) := Lib.hid fun r h => h
 obtain ⟨n, hn⟩ : ∃ n, L.length = n := ⟨_, rfl⟩
 have HN := Lib.hid hn
 rw [hn] at hl ⊢
 clear hr hn hW1 hP hz1 hB1
 go_enter Tryz.func205, Tryz.ntmps205
 go_upto_region 1 with fail
 rw [HW1.out]
 go_wp2_with fail
 go_loopg [8] n (fun gk i wr => ∃ j : Nat, j ≤ n ∧ gk = n - j ∧ i = .int .i64 j ∧ (∀ r : Int, (0 ≤ r ↔ z ∈ L.drop j) → (0 ≤ r ↔ z ∈ L)) ∧ Below W1.heap.size W1 wr)
 case atStart => exact ⟨0, by omega, rfl, rfl, HQ.out, Below.refl _ _⟩
 case round =>
  obtain ⟨j, hj, rfl, rfl, hs, hB⟩ := hrel
  have HSC := Lib.hid hs; clear hs
  obtain ⟨z0, z1, z2, z3⟩ := HZ.out _ hB
  have HBZ := Lib.hid (below_up HB1.out hB)
  by_cases hlt : j < n
  ·obtain ⟨x, hx⟩ : ∃ x, L[j]? = some x := ⟨_, List.getElem?_eq_getElem (by rw [HN.out]; exact hlt)⟩
   obtain ⟨b, off, ha, hb, hcell⟩ := (HR.out.keep hB) (by rw [HN.out]; omega)
   have c0 : wr.cell? ⟨b, off + j * 4, none⟩ = some (.string x.dig) := hcell j x hx 0 (.string x.dig) rfl
   have c1 : wr.cell? ⟨b, off + j * 4 + 1, none⟩ = some (.string x.tier) := hcell j x hx 1 (.string x.tier) rfl
   have c2 : wr.cell? ⟨b, off + j * 4 + 2, none⟩ = some (.bool x.good) := hcell j x hx 2 (.bool x.good) rfl
   have c3 : wr.cell? ⟨b, off + j * 4 + 3, none⟩ = some (.int .i64 x.asked) := hcell j x hx 3 (.int .i64 x.asked) rfl
   clear hcell
   have HX : Hid (L.drop j = x :: L.drop (j + 1)) := Lib.hid (by
    obtain ⟨h1, h2⟩ := List.getElem?_eq_some_iff.1 hx
    rw [List.drop_eq_getElem_cons h1, h2])
   have hj0 : (0 : Int) ≤ (j : Int) := by omega
   have hj1 : (j : Int) < (n : Int) := by omega
   rw [ha]
   clear hx
   obtain ⟨bq, hbq, hrun⟩ : ∃ bq : Bool, (bq = true ↔ z = x) ∧ ∀ V : World, Sem.run Tryz.prog (binOp .eql 74 (.agg #[.string z.dig, .string z.tier, .bool z.good, .int .i64 z.asked]) (.agg #[.string x.dig, .string x.tier, .bool x.good, .int .i64 x.asked])) V = .ok (.bool bq) V := by
    by_cases he : z = x
    ·exact ⟨true, by simp [he], fun V => by
      obtain ⟨b', h1, h2⟩ := eqlCop z x V
      rw [h1.2 he] at h2; exact h2⟩
    ·exact ⟨false, by simp [he], fun V => by
      obtain ⟨b', h1, h2⟩ := eqlCop z x V
      cases b' with
      | true => exact absurd (h1.1 rfl) he
      | false => exact h2⟩
   have HBQ := Lib.hid hbq
   have hgd := guardCop
   clear hbq
   cases bq
   ·have HNX : Hid (∀ r : Int, (0 ≤ r ↔ z ∈ L.drop (j + 1)) → (0 ≤ r ↔ z ∈ L)) := Lib.hid fun r h => HSC.out r (by
     rw [HX.out, List.mem_cons]
     exact ⟨fun g => .inr (h.1 g), fun g => g.elim (fun e => absurd (HBQ.out.2 e) (by decide)) h.2⟩)
    go_wp2_with fail
    go_quiet (fail)
    go_wp2_with fail
    rw [← ha]
    go_roundg (n - (j + 1))
    case rel => exact ⟨j + 1, by omega, rfl, by go_num, HNX.out, below_drewN hB _⟩
    case measure => omega
   ·have HE : Hid (z ∈ L.drop j) := Lib.hid (by rw [HX.out, HBQ.out.1 rfl]; exact List.mem_cons_self ..)
    go_wp2_with fail
    go_quiet (fail)
    go_wp2_with fail
    go_ret
    exact ⟨⟨_, rfl, HSC.out _ ⟨fun _ => HE.out, fun _ => by omega⟩⟩, below_up HB1.out (below_drewN hB _)⟩
  ·obtain rfl : j = n := by omega
   go_wp2_with fail
   go_ret
   exact ⟨⟨_, rfl, HSC.out _ (by rw [List.drop_eq_nil_of_le (by rw [HN.out]; exact Nat.le_refl _)]; simp)⟩, HBZ.out⟩
theorem containsC_is (L : List Cop) (sa : Option Addr) (sc : Nat) (z : Cop) (w : World) (hr : RowE St.eC w sa L) (hl : L.length ≤ sc ∧ sc ≤ 9223372036854775807) :
  Calls Tryz.prog 170 #[.slice sa L.length sc, .agg #[.string z.dig, .string z.tier, .bool z.good, .int .i64 z.asked]] w fun e w' => (∃ b : Bool, e = .returned (.bool b) ∧ (b = true ↔ z ∈ L)) ∧ Below w.heap.size w w' := by
 obtain ⟨W1, hW1, hP, hz1, hB1⟩ := box w #[.string z.dig, .string z.tier, .bool z.good, .int .i64 z.asked] 74
 have HW1 := Lib.hid hW1; have HB1 := Lib.hid hB1
 have HC := Lib.hid (idxC_is L sa sc z W1 (hr.keep hB1) hl)
 obtain ⟨z0, z1, z2, z3⟩ := hP.four
 clear hW1 hP hz1 hB1 hr
 go_enter Tryz.func170, Tryz.ntmps170
 go_upto_region 1 with fail
 rw [HW1.out]
 go_wp2_with (go_at_call 205; (with_reducible refine HC.out.mono ?_); rintro e w4 ⟨⟨r, rfl, hr2⟩, hB4⟩)
 go_ret
 exact ⟨⟨_, rfl, by rw [← hr2]; simp⟩, below_up HB1.out hB4⟩
end Go.Proofs.YthdiccdnggloiaaGreatDoor
