/- Rows of photos that a function makes. -/
import Derived.Test.YtngbaljmlbdfkaaGreatDoorFdLib
import Derived.Test.YtngbaljmlbdfkaaGreatDoorOwn
import Derived.Test.YtngbaljmlbdfkaaGreatDoorInts
import Derived.Test.YtngbaljmlbdfkaaGreatDoorFdIds
import Derived.Deep.Cut
namespace Go.Proofs.YtngbaljmlbdfkaaGreatDoor
open Go.RowKit Go.Sort Go.Shelf
set_option linter.unusedVariables false
theorem own_keepH {w w' : World} {B : Nat} {e : TypeId} {k : Nat} {v : Value} {n : Nat} {xs : List Value} (h : w.ownsRow B e k v n xs) (hb : Below w.heap.size w w') : w'.ownsRow B e k v n xs :=
  h.kept (row := none) ⟨hb.os, hb.tape, hb.output, hb.size, fun k hk _ => hb.block k hk⟩ (by cases hv : v.ownBlock; exact .inl rfl; exact .inr (by simp))
/-- A row of one's own, read where its block is as it was. -/
theorem own_rowH {w : World} {B : Nat} {e : TypeId} {v : Value} {n : Nat} {xs : List Value} (h : w.ownsRow B e 1 v n xs) : ∃ a ca, v = .slice a n ca ∧ ∀ V : World, (∀ b, B ≤ b → b < w.heap.size → V.heap[b]? = w.heap[b]?) → Row V a n (fun i => xs[i]?.getD .nilIface) := by
  have hlen := h.1
  have h0 := h
  rcases h.2 with ⟨rfl, rfl⟩ | ⟨g, cap, cur, rfl, hg, hc, _⟩
  · exact ⟨_, _, rfl, fun V _ hn => absurd hn (by omega)⟩
  · refine ⟨_, _, rfl, fun V hV hn => ⟨g, 0, rfl, ?_, fun i hi => ?_⟩⟩
    · have hlt : g < w.heap.size := (h0.lt g rfl).2
      have := hV g hg hlt
      rw [hc] at this
      rcases Nat.lt_or_ge g V.heap.size with h' | h'
      · exact h'
      · rw [Array.getElem?_eq_none h'] at this; cases this
    · have hlt : g < w.heap.size := (h0.lt g rfl).2
      have hcell : V.cell? ⟨g, 0 + i, none⟩ = w.cell? ⟨g, 0 + i, none⟩ := by unfold World.cell?; rw [hV g hg hlt]
      rw [hcell, Nat.zero_add, h0.cellAt i (by omega)]
      show _ = some (xs[i]?.getD .nilIface)
      rw [List.getElem?_eq_getElem (by omega)]; rfl
/-- The photo of which all fields are 0. -/
def Ph.zero : Ph := ⟨0, 0, 0, 0, 0, 0, 0, ⟨#[]⟩, ⟨#[]⟩, none, 0, 0, fun _ => 0, fun _ => 0, none, 0, 0, fun _ => ⟨#[]⟩, none, 0, 0, fun _ => 0, false⟩
theorem Ph.zero_in (w : World) : Ph.zero.In w := ⟨fun h => absurd h (by show ¬ 0 < 0; omega), fun h => absurd h (by show ¬ 0 < 0; omega), fun h => absurd h (by show ¬ 0 < 0; omega)⟩
theorem Ph.zero_fits : Ph.zero.Fits := ⟨by show 0 ≤ _; omega, by show 0 ≤ _; omega, fun i h => absurd h (by show ¬ i < 0; omega), by show 0 ≤ _; omega, by show 0 ≤ _; omega, by show 0 ≤ _; omega⟩
namespace Fd
def phCells (p : Ph) : List Value := [.int .i64 p.id, .string p.file, .int .i64 p.mom, .int .i64 p.zone, .slice p.wa p.wn p.wc, .int .i64 p.W, .int .i64 p.H, .int .i64 p.turn, .int .i64 p.stars, .slice p.ta p.tn p.tc, .string p.cap, .slice p.pa p.pn p.pc, .bool p.hid]
def phFlat (l : List Ph) : List Value := l.flatMap phCells
theorem phFlat_nil : phFlat [] = [] := rfl
theorem phFlat_snoc (l : List Ph) (p : Ph) : phFlat (l ++ [p]) = phFlat l ++ phCells p := by simp [phFlat]
theorem phFlat_append (l m : List Ph) : phFlat (l ++ m) = phFlat l ++ phFlat m := by simp [phFlat]
theorem phFlat_cons (p : Ph) (l : List Ph) : phFlat (p :: l) = phCells p ++ phFlat l := by simp [phFlat]
theorem phFlat_len (l : List Ph) : (phFlat l).length = l.length * 13 := by
  induction l with
  | nil => rfl
  | cons p l ih =>
    have h13 : (phCells p).length = 13 := rfl
    rw [phFlat_cons, List.length_append, List.length_cons, ih, h13]; omega
theorem phFlat_get (l : List Ph) : ∀ i, i < l.length → ∀ j, j < 13 → (phFlat l)[i * 13 + j]? = (phCells (l[i]?.getD Ph.zero))[j]? := by
  induction l with
  | nil => intro i h; simp at h
  | cons p l ih =>
    intro i h j hj
    have h13 : (phCells p).length = 13 := rfl
    cases i with
    | zero => rw [phFlat_cons, Nat.zero_mul, Nat.zero_add, List.getElem?_append_left (by omega)]; rfl
    | succ k =>
      rw [phFlat_cons, List.getElem?_append_right (by omega), h13, show (k + 1) * 13 + j - 13 = k * 13 + j by omega, ih k (by simpa using h) j hj]; simp
end Fd
theorem PhAt.of_cells {w : World} {b o : Nat} {p : Ph} (h : ∀ j, j < 13 → w.cell? ⟨b, o + j, none⟩ = (Fd.phCells p)[j]?) : PhAt w b o p :=
  ⟨h 0 (by omega), h 1 (by omega), h 2 (by omega), h 3 (by omega), h 4 (by omega), h 5 (by omega), h 6 (by omega), h 7 (by omega), h 8 (by omega), h 9 (by omega), h 10 (by omega), h 11 (by omega), h 12 (by omega)⟩
theorem Ph.in_getD {w : World} {L : List Ph} (hI : ∀ p, p ∈ L → p.In w) (i : Nat) : (L[i]?.getD Ph.zero).In w := by
  rcases Nat.lt_or_ge i L.length with h | h
  · rw [List.getElem?_eq_getElem h]; exact hI _ (List.getElem_mem h)
  · rw [List.getElem?_eq_none h]; exact Ph.zero_in w
/-- A row of photos of the call's own. -/
theorem Phs.of_own {w : World} {base n : Nat} {e : TypeId} {v : Value} {L : List Ph} (h : w.ownsRow base e 13 v n (Fd.phFlat L)) (hI : ∀ p, p ∈ L → p.In w) :
    ∃ a ca, v = .slice a n ca ∧ n ≤ ca ∧ ca ≤ 9223372036854775807 ∧ Phs w a n (fun i => L[i]?.getD Ph.zero) := by
  have hlen := h.1
  rw [Fd.phFlat_len] at hlen
  have h0 := h
  rcases h.2 with ⟨rfl, rfl⟩ | ⟨g, cap, cur, rfl, hg, hc, hk, hm, _⟩
  · exact ⟨none, 0, rfl, by omega, by omega, ⟨fun hn => by omega, fun i hi => by omega⟩⟩
  · have hm2 : cap ≤ 9223372036854775807 := hm
    refine ⟨_, _, rfl, hk, hm2, ⟨fun hn => ⟨g, 0, rfl, (h0.lt g rfl).2, fun i hi => PhAt.of_cells fun j hj => ?_⟩, fun i hi => Ph.in_getD hI i⟩⟩
    rw [Nat.zero_add, h0.cellAt (i * 13 + j) (by omega), Fd.phFlat_get L i (by omega) j hj]
theorem infoPhoto : (Tryz.prog.info? 49).map (fun i => (i.zero, i.size, i.bytes)) = some (some (.agg #[.int .i64 0, .string ByteArray.empty, .int .i64 0, .int .i64 0, .slice none 0 0, .int .i64 0, .int .i64 0, .int .i64 0, .int .i64 0, .slice none 0 0, .string ByteArray.empty, .slice none 0 0, .bool false]), 13, 168) := by kernel_rfl
theorem cell_ph_new (w : World) (p : Ph) (t : TypeId) : ∀ j u, (Fd.phCells p)[j]? = some u → (w.alloc (.cells #[.int .i64 p.id, .string p.file, .int .i64 p.mom, .int .i64 p.zone, .slice p.wa p.wn p.wc, .int .i64 p.W, .int .i64 p.H, .int .i64 p.turn, .int .i64 p.stars, .slice p.ta p.tn p.tc, .string p.cap, .slice p.pa p.pn p.pc, .bool p.hid] t)).cell? ((⟨w.heap.size, 0, none⟩ : Addr).add j) = some u := by
  intro j u hj
  rw [show (⟨w.heap.size, 0, none⟩ : Addr).add j = ⟨w.heap.size, j, none⟩ from by unfold Addr.add; split <;> simp_all, (Blk.new w #[.int .i64 p.id, .string p.file, .int .i64 p.mom, .int .i64 p.zone, .slice p.wa p.wn p.wc, .int .i64 p.W, .int .i64 p.H, .int .i64 p.turn, .int .i64 p.stars, .slice p.ta p.tn p.tc, .string p.cap, .slice p.pa p.pn p.pc, .bool p.hid] t).cell]
  simpa [Fd.phCells] using hj
theorem phCells_one (p : Ph) : ∀ u ∈ Fd.phCells p, u.oneCell' = true := by
  intro u hu
  simp only [Fd.phCells, List.mem_cons, List.not_mem_nil, or_false] at hu
  rcases hu with rfl | rfl | rfl | rfl | rfl | rfl | rfl | rfl | rfl | rfl | rfl | rfl | rfl <;> rfl
end Go.Proofs.YtngbaljmlbdfkaaGreatDoor
namespace Go.Proofs.YtngbaljmlbdfkaaGreatDoor
open Go.RowKit Go.Sort Go.Shelf
set_option linter.unusedVariables false
namespace Fd
theorem scan_all {bad : Nat → Int} {n : Nat} : ∀ i, scan bad i n = 0 → ∀ k, i ≤ k → k < i + n → bad k = 0 := by
  induction n with
  | zero => intro i _ k h1 h2; omega
  | succ n ih =>
    intro i h k h1 h2
    by_cases hb : bad i = 0
    · rw [scan_ok hb] at h
      by_cases e : k = i
      · subst e; exact hb
      · exact ih (i + 1) h k (by omega) (by omega)
    · rw [scan_bad hb] at h; exact absurd h hb
theorem lerr_few {x : Nat → Ph} {n : Nat} (h : lerr x n = 0) : n ≤ 1000 := by
  unfold lerr at h; split at h
  · cases h
  · omega
theorem lerr_scan {x : Nat → Ph} {n : Nat} (h : lerr x n = 0) : scan (lbad x) 0 n = 0 := by
  unfold lerr at h; split at h
  · cases h
  · exact h
theorem lerr_each {x : Nat → Ph} {n : Nat} (h : lerr x n = 0) (i : Nat) (hi : i < n) : (x i).err = 0 := by
  have := scan_all 0 (lerr_scan h) i (by omega) (by omega)
  by_cases g : (x i).err = 0
  · exact g
  · rw [lbad_err rfl g] at this; exact absurd this g
theorem lerr_rise {x : Nat → Ph} {n : Nat} (h : lerr x n = 0) (i : Nat) (hi : i + 1 < n) : (x i).id < (x (i + 1)).id := by
  have := scan_all 0 (lerr_scan h) (i + 1) (by omega) (by omega)
  have he := lerr_each h (i + 1) hi
  by_cases g : (x (i + 1)).id ≤ (x (i + 1 - 1)).id
  · rw [lbad_ord he (by omega) g] at this; cases this
  · simpa using g
end Fd
end Go.Proofs.YtngbaljmlbdfkaaGreatDoor
namespace Go.Proofs.YtngbaljmlbdfkaaGreatDoor
open Go.RowKit Go.Sort Go.Shelf
set_option linter.unusedVariables false
namespace Fd
/-- The Ids of the first n photos. -/
def idsL (x : Nat → Ph) (n : Nat) : List Int := (List.range n).map fun i => (x i).id
theorem idsL_succ (x : Nat → Ph) (n : Nat) : idsL x (n + 1) = idsL x n ++ [(x n).id] := by simp [idsL, List.range_succ]
theorem idsL_len (x : Nat → Ph) (n : Nat) : (idsL x n).length = n := by simp [idsL]
end Fd
def IntsPost (w : World) (xs : List Int) (e : Ending) (w' : World) : Prop :=
  ∃ a ca, e = .returned (.slice a xs.length ca) ∧ RowL w' a xs ∧ Below w.heap.size w w'
set_option maxRecDepth 100000 in
set_option maxHeartbeats 2000000 in
theorem idsF_is (a : Option Addr) (n ca : Nat) (x : Nat → Ph) (w : World) (hx : Phs w a n x) (hn : n ≤ 100000) :
    Calls Tryz.prog 50 #[.slice a n ca] w (IntsPost w (Fd.idsL x n)) := by
  -- f.ids: the function; go_wp2_with (go_at_call 82; (with_reducible refine (clip_ints _ _ _ _ (by omega) (by omega)).mono ?_); rintro e w9 ⟨rfl, rfl⟩): the end
  obtain ⟨i0, hi0, hy0, hy1, hy2⟩ := info_parts infoInt
  have HI0 := Lib.hid hi0; have HI1 := Lib.hid hy0; have HI2 := Lib.hid hy1; have HI3 := Lib.hid hy2
  have HX := Lib.hid hx
  clear hx hi0 hy0 hy1 hy2
  go_enter Tryz.func50, Tryz.ntmps50
  go_wp2_with fail
  go_loopg [3, 8] n (fun gk v i wr => ∃ j : Nat, j ≤ n ∧ gk = n - j ∧ i = .int .i64 j ∧ wr.ownsRow w.heap.size 3 1 v j ((Fd.idsL x j).map (Value.int .i64)) ∧ Below w.heap.size w wr)
  case atStart => exact ⟨0, by omega, rfl, rfl, World.ownsRow_nil _ _ _ _, Below.refl _ _⟩
  case round =>
    obtain ⟨j, hj, rfl, rfl, hown, hB⟩ := hrel
    have hsz := hB.size
    by_cases hlt : j < n
    · have HXr := HX.out.keep hB
      obtain ⟨b, off, rfl, hb, hcell⟩ := HXr.row (by omega)
      obtain ⟨q0, q1, q2, q3, q4, q5, q6, q7, q8, q9, q10, q11, q12⟩ := hcell j hlt
      have HY := Lib.hid (Fd.idsL_succ x j)
      clear hcell HXr
      generalize x j = y at *
      generalize hL : Fd.idsL x j = L at *
      obtain ⟨W4, hW4, hP, hz4, hB4⟩ := box wr #[.int .i64 y.id, .string y.file, .int .i64 y.mom, .int .i64 y.zone, .slice y.wa y.wn y.wc, .int .i64 y.W, .int .i64 y.H, .int .i64 y.turn, .int .i64 y.stars, .slice y.ta y.tn y.tc, .string y.cap, .slice y.pa y.pn y.pc, .bool y.hid] 49
      have HW4 := Lib.hid hW4
      have hB04 := below_up hB hB4
      have hsz4 := hB04.size
      have HOWN4 := Lib.hid (own_keepH hown hB4)
      clear hW4 hown hL hz4
      obtain ⟨m0, m1, m2, m3, m4, m5, m6, m7, m8, m9, m10, m11, m12⟩ := hP.photo
      go_upto_region 5 with fail
      rw [HW4.out]
      clear q0 q1 q2 q3 q4 q5 q6 q7 q8 q9 q10 q11 q12
      go_wp2_with (at_builtin; refine wpList_append_own2 _ rfl _ _ 30 rfl w.heap.size 3 i0 (.int .i64 0) 1 8 Tryz.underlying30 HI0.out HI1.out HI2.out HI3.out rfl (by decide) _ _ _ rfl (HOWN4.out.alloc _) ⟨W4.heap.size, 0, none⟩ 1 1 [.int .i64 y.id] rfl (by decide) rfl (cell_one_new _ _ _) (by simp [Value.oneCell']) (by unfold maxLen; omega) (by omega) (by simp; omega) ?_; intro g8 cap8 w8 hown8 hgrow8 hnew8)
      have HOWN8 := Lib.hid hown8
      have HB8 := Lib.hid ((below_allocs hB04 (.cells #[.int .i64 y.id] 3)).grown hgrow8 (by simp; omega) (fun k e => (HOWN4.out.lt k e).1))
      clear hown8 hgrow8 hnew8
      go_roundg (n - (j + 1))
      case rel => exact ⟨j + 1, by omega, rfl, by go_num, by rw [HY.out, List.map_append]; exact HOWN8.out, HB8.out⟩
      case measure => omega
    · obtain rfl : j = n := by omega
      have hll := Fd.idsL_len x j
      generalize Fd.idsL x j = L at *
      rcases hown.2 with ⟨rfl, h0⟩ | ⟨g, cap, cur, rfl, hg, hcell, hk, hm, _⟩
      · subst h0
        obtain rfl := List.eq_nil_of_length_eq_zero hll
        clear hown hll
        go_wp2_with (go_at_call 82; (with_reducible refine (clip_ints _ _ _ _ (by omega) (by omega)).mono ?_); rintro e w9 ⟨rfl, rfl⟩)
        go_ret
        exact ⟨none, 0, rfl, RowL.nil _ _, hB⟩
      · have hm2 : cap ≤ 9223372036854775807 := hm
        have HR := Lib.hid (RowL.of_own hown)
        have HLL := Lib.hid hll
        clear hown hcell hm hll
        go_wp2_with (go_at_call 82; (with_reducible refine (clip_ints _ _ _ _ (by omega) (by omega)).mono ?_); rintro e w9 ⟨rfl, rfl⟩)
        go_ret
        exact ⟨_, _, by rw [HLL.out]; rfl, HR.out, hB⟩
set_option maxRecDepth 100000 in
set_option maxHeartbeats 2000000 in
theorem idsR_is (a : Option Addr) (n ca : Nat) (x : Nat → Ph) (w : World) (hx : Phs w a n x) (hn : n ≤ 100000) :
    Calls Tryz.prog 39 #[.slice a n ca] w (IntsPost w (Fd.idsL x n)) := by
  -- R.Ids: the function; go_wp2_with fail: the end
  obtain ⟨i0, hi0, hy0, hy1, hy2⟩ := info_parts infoInt
  have HI0 := Lib.hid hi0; have HI1 := Lib.hid hy0; have HI2 := Lib.hid hy1; have HI3 := Lib.hid hy2
  have HX := Lib.hid hx
  clear hx hi0 hy0 hy1 hy2
  go_enter Tryz.func39, Tryz.ntmps39
  go_wp2_with fail
  go_loopg [3, 8] n (fun gk v i wr => ∃ j : Nat, j ≤ n ∧ gk = n - j ∧ i = .int .i64 j ∧ wr.ownsRow w.heap.size 3 1 v j ((Fd.idsL x j).map (Value.int .i64)) ∧ Below w.heap.size w wr)
  case atStart => exact ⟨0, by omega, rfl, rfl, World.ownsRow_nil _ _ _ _, Below.refl _ _⟩
  case round =>
    obtain ⟨j, hj, rfl, rfl, hown, hB⟩ := hrel
    have hsz := hB.size
    by_cases hlt : j < n
    · have HXr := HX.out.keep hB
      obtain ⟨b, off, rfl, hb, hcell⟩ := HXr.row (by omega)
      obtain ⟨q0, q1, q2, q3, q4, q5, q6, q7, q8, q9, q10, q11, q12⟩ := hcell j hlt
      have HY := Lib.hid (Fd.idsL_succ x j)
      clear hcell HXr
      generalize x j = y at *
      generalize hL : Fd.idsL x j = L at *
      obtain ⟨W4, hW4, hP, hz4, hB4⟩ := box wr #[.int .i64 y.id, .string y.file, .int .i64 y.mom, .int .i64 y.zone, .slice y.wa y.wn y.wc, .int .i64 y.W, .int .i64 y.H, .int .i64 y.turn, .int .i64 y.stars, .slice y.ta y.tn y.tc, .string y.cap, .slice y.pa y.pn y.pc, .bool y.hid] 49
      have HW4 := Lib.hid hW4
      have hB04 := below_up hB hB4
      have hsz4 := hB04.size
      have HOWN4 := Lib.hid (own_keepH hown hB4)
      clear hW4 hown hL hz4
      obtain ⟨m0, m1, m2, m3, m4, m5, m6, m7, m8, m9, m10, m11, m12⟩ := hP.photo
      go_upto_region 5 with fail
      rw [HW4.out]
      clear q0 q1 q2 q3 q4 q5 q6 q7 q8 q9 q10 q11 q12
      go_wp2_with (at_builtin; refine wpList_append_own2 _ rfl _ _ 30 rfl w.heap.size 3 i0 (.int .i64 0) 1 8 Tryz.underlying30 HI0.out HI1.out HI2.out HI3.out rfl (by decide) _ _ _ rfl (HOWN4.out.alloc _) ⟨W4.heap.size, 0, none⟩ 1 1 [.int .i64 y.id] rfl (by decide) rfl (cell_one_new _ _ _) (by simp [Value.oneCell']) (by unfold maxLen; omega) (by omega) (by simp; omega) ?_; intro g8 cap8 w8 hown8 hgrow8 hnew8)
      have HOWN8 := Lib.hid hown8
      have HB8 := Lib.hid ((below_allocs hB04 (.cells #[.int .i64 y.id] 3)).grown hgrow8 (by simp; omega) (fun k e => (HOWN4.out.lt k e).1))
      clear hown8 hgrow8 hnew8
      go_roundg (n - (j + 1))
      case rel => exact ⟨j + 1, by omega, rfl, by go_num, by rw [HY.out, List.map_append]; exact HOWN8.out, HB8.out⟩
      case measure => omega
    · obtain rfl : j = n := by omega
      have hll := Fd.idsL_len x j
      generalize Fd.idsL x j = L at *
      rcases hown.2 with ⟨rfl, h0⟩ | ⟨g, cap, cur, rfl, hg, hcell, hk, hm, _⟩
      · subst h0
        obtain rfl := List.eq_nil_of_length_eq_zero hll
        clear hown hll
        go_wp2_with fail
        go_ret
        exact ⟨none, 0, rfl, RowL.nil _ _, hB⟩
      · have hm2 : cap ≤ 9223372036854775807 := hm
        have HR := Lib.hid (RowL.of_own hown)
        have HLL := Lib.hid hll
        clear hown hcell hm hll
        go_wp2_with fail
        go_ret
        exact ⟨_, _, by rw [HLL.out]; rfl, HR.out, hB⟩
end Go.Proofs.YtngbaljmlbdfkaaGreatDoor
