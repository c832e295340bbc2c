/- The reference's condsAhead. -/
import Derived.Test.YtngbaljmlbdfkaaGreatDoorCndK
import Derived.Test.YtngbaljmlbdfkaaGreatDoorOwn
import Derived.Test.YtngbaljmlbdfkaaGreatDoorInts
import Derived.Lib.OwnKind
import Derived.Lib.SmallJoins
import Derived.Maps.AppendAt
namespace Go.Proofs.YtngbaljmlbdfkaaGreatDoor
open Go.RowKit Go.Sort Go.Shelf
set_option linter.unusedVariables false
def flatC (L : List (Cnd × Nat)) : List Value := L.flatMap fun p => p.1.cells
def depsC (L : List (Cnd × Nat)) : List Value := L.map fun p => .int .i64 (p.2 : Int)
/-- The two rows of condsAhead. -/
structure TwoC (w : World) (B : Nat) (v u : Value) (L : List (Cnd × Nat)) : Prop where
  rows : w.ownsRow B 26 6 v L.length (flatC L)
  deps : w.ownsRow B 3 1 u L.length (depsC L)
theorem own_slice {w : World} {B : Nat} {e : TypeId} {k : Nat} {v : Value} {n : Nat} {xs : List Value} (h : w.ownsRow B e k v n xs) : ∃ a ca, v = .slice a n ca := by
  rcases h.2 with ⟨rfl, rfl⟩ | ⟨g, cap, cur, rfl, _⟩
  · exact ⟨_, _, rfl⟩
  · exact ⟨_, _, rfl⟩
theorem own_ne {w : World} {B B' : Nat} {e e' : TypeId} {k k' : Nat} {v u : Value} {n m : Nat} {xs ys : List Value} (h : w.ownsRow B e k v n xs) (g : w.ownsRow B' e' k' u m ys) (hne : e ≠ e') : u.ownBlock = none ∨ u.ownBlock ≠ v.ownBlock := by
  cases hu : u.ownBlock with
  | none => exact .inl rfl
  | some b =>
    right
    intro e2
    obtain ⟨c1, f1, h1⟩ := Go.Lib.ownsRow_kind g b hu
    obtain ⟨c2, f2, h2⟩ := Go.Lib.ownsRow_kind h b e2.symm
    rw [h1] at h2
    cases h2
    exact hne rfl
theorem own_below {w w' : World} {B : Nat} {e : TypeId} {k : Nat} {v : Value} {n : Nat} {xs : List Value} (h : w.ownsRow B e k v n xs) (hg : w.grownBy w' v.ownBlock) (hB : B ≤ w.heap.size) : Below B w w' :=
  ⟨hg.os, hg.tape, hg.output, hg.size, fun i hi => hg.block i (by omega) fun e => by have := (h.lt i e.symm).1; omega⟩
theorem TwoC.alloc {w : World} {B : Nat} {v u : Value} {L : List (Cnd × Nat)} (h : TwoC w B v u L) (o : Obj) : TwoC (w.alloc o) B v u L := ⟨h.rows.alloc o, h.deps.alloc o⟩
/-- The two rows with one more. -/
theorem TwoC.next {w5 w6 : World} {B : Nat} {u v' u' : Value} {l : List (Cnd × Nat)} {c : Cnd} {d : Nat} {xs : List Value} (hx : c.cells = xs)
    (h1 : w5.ownsRow B 26 6 v' (l.length + 1) (flatC l ++ xs)) (h2 : w6.ownsRow B 3 1 u' (l.length + 1) (depsC l ++ [.int .i64 (d : Int)])) (o : Obj) (hg : (w5.alloc o).grownBy w6 u.ownBlock)
    (hU : (w5.alloc o).ownsRow B 3 1 u l.length (depsC l)) : TwoC w6 B v' u' (l ++ [(c, d)]) := by
  have hu := own_ne hU (h1.alloc o) (by decide)
  refine ⟨?_, ?_⟩
  · have := (h1.alloc o).kept hg hu
    rw [List.length_append]
    simpa [flatC, hx] using this
  · rw [List.length_append]
    simpa [depsC] using h2
theorem TwoC.below {w w' : World} {B : Nat} {v u : Value} {L : List (Cnd × Nat)} (h : TwoC w B v u L) (hb : Below w.heap.size w w') : TwoC w' B v u L :=
  ⟨h.rows.kept (row := none) ⟨hb.os, hb.tape, hb.output, hb.size, fun k hk _ => hb.block k hk⟩ (by cases hv : v.ownBlock; exact .inl rfl; exact .inr (by simp)), h.deps.kept (row := none) ⟨hb.os, hb.tape, hb.output, hb.size, fun k hk _ => hb.block k hk⟩ (by cases hv : u.ownBlock; exact .inl rfl; exact .inr (by simp))⟩
theorem Cnd.aheadK_len (f : Nat → List (Cnd × Nat) → List (Cnd × Nat)) (hf : ∀ i l, l.length ≤ 101 → (f i l).length ≤ 101) : ∀ k (l : List (Cnd × Nat)), l.length ≤ 101 → (Cnd.aheadK f k l).length ≤ 101
  | 0, l, h => h
  | k + 1, l, h => by rw [Cnd.aheadK]; exact hf _ _ (Cnd.aheadK_len f hf k l h)
theorem TwoC.step1 {w1 w5 : World} {B n : Nat} {v u : Value} {xs ys : List Value} (hA : w1.ownsRow B 26 6 v n xs) (hU : w1.ownsRow B 3 1 u n ys) (hS : B ≤ w1.heap.size) (hg : w1.grownBy w5 v.ownBlock) (o : Obj) :
    (w5.alloc o).ownsRow B 3 1 u n ys ∧ Below B w1 (w5.alloc o) ∧ B ≤ (w5.alloc o).heap.size := by
  have h5 : B ≤ w5.heap.size := Nat.le_trans hS hg.size
  exact ⟨(hU.kept hg (own_ne hA hU (by decide))).alloc o, (own_below hA hg hS).trans ((Below.refl _ _).alloc h5 o), by simp; omega⟩
theorem TwoC.step2 {w5 w6 : World} {B n : Nat} {u : Value} {ys : List Value} (hU : w5.ownsRow B 3 1 u n ys) (hg : w5.grownBy w6 u.ownBlock) (hS : B ≤ w5.heap.size) : Below B w5 w6 := own_below hU hg hS
def AheadPost (w : World) (B : Nat) (L : List (Cnd × Nat)) (e : Ending) (w' : World) : Prop := ∃ v u, e = .returned (.tuple #[v, u]) ∧ TwoC w' B v u L ∧ Below B w w'
theorem infoCond : (Tryz.prog.info? 26).map (fun i => (i.zero, i.size, i.bytes)) = some (some (.agg #[.int .i64 0, .slice none 0 0, .string ByteArray.empty, .int .i64 0, .int .i64 0, .slice none 0 0]), 6, 88) := by kernel_rfl
theorem six_new {w : World} {c0 c1 c2 c3 c4 c5 : Value} {t : TypeId} (n : Nat) (hn : w.heap.size = n) : ∀ j u, [c0, c1, c2, c3, c4, c5][j]? = some u → (w.alloc (.cells #[c0, c1, c2, c3, c4, c5] t)).cell? ((⟨n, 0, none⟩ : Addr).add j) = some u := by
  intro j u h
  subst hn
  obtain ⟨h0, h1, h2, h3, h4, h5⟩ := (Blk.new w #[c0, c1, c2, c3, c4, c5] t).six
  match j with
  | 0 => rw [← h]; exact h0
  | 1 => rw [← h]; exact h1
  | 2 => rw [← h]; exact h2
  | 3 => rw [← h]; exact h3
  | 4 => rw [← h]; exact h4
  | 5 => rw [← h]; exact h5
  | k + 6 => simp at h
set_option maxRecDepth 100000 in
set_option maxHeartbeats 8000000 in
theorem ahead_is (w0 : World) (B : Nat) (hB0 : w0.heap.size ≤ B) : ∀ (c : Cnd) (d : Nat) (l : List (Cnd × Nat)) (w : World) (v u : Value), c.In w0 → c.Fits → Below w0.heap.size w0 w → d ≤ 13 → l.length ≤ 101 → B ≤ w.heap.size → TwoC w B v u l →
    Calls Tryz.prog 34 #[.agg #[.int .i64 c.op, .slice c.ka c.kn c.kc, .string c.text, .int .i64 c.low, .int .i64 c.high, .slice c.aa c.an c.ac], .int .i64 d, v, u] w (AheadPost w B (Cnd.ahead c d l)) := by
  refine Cnd.ind (fun d l w v u h => absurd rfl h.ne) fun c hne ih d l w v u hI hF hBw hd hl hBs hT => ?_
  obtain ⟨a, ca, rfl⟩ := own_slice hT.rows
  obtain ⟨W1, hW1, hP, hz1, hB1⟩ := box w #[.int .i64 c.op, .slice c.ka c.kn c.kc, .string c.text, .int .i64 c.low, .int .i64 c.high, .slice c.aa c.an c.ac] 26
  have hT1 : TwoC W1 B (.slice a l.length ca) u l := by rw [← hW1]; exact hT.alloc _
  subst hW1
  have hb1 : Below B w (w.alloc (.cells #[.int .i64 c.op, .slice c.ka c.kn c.kc, .string c.text, .int .i64 c.low, .int .i64 c.high, .slice c.aa c.an c.ac] 26)) := hB1.mono hBs
  have HV1 : Hid (some w.heap.size ≠ (Value.slice a l.length ca).ownBlock) := Lib.hid fun e => by have := (hT.rows.lt _ e.symm).2; omega
  have HU0 : Hid (some w.heap.size ≠ u.ownBlock) := Lib.hid fun e => by have := (hT.deps.lt _ e.symm).2; omega
  have HIH := Lib.hid ih; have HI := Lib.hid hI; have HF := Lib.hid hF; have HC := Lib.hid hI.cells; have HNE := Lib.hid hne
  clear ih
  obtain ⟨hkn, han, hts⟩ := hF.size
  by_cases hbig : 100 < l.length
  · have hbig' : (100 : Int) < (l.length : Int) := by omega
    have HA := Lib.hid (Cnd.ahead_full hne (d := d) hbig)
    have HT := Lib.hid hT1; have HB1 := Lib.hid hb1
    clear hT hT1 hP hI hF hne hbig hb1
    go_enter Tryz.func34, Tryz.ntmps34
    go_wp2_with fail
    go_ret2
    exact ⟨_, _, rfl, by rw [HA.out]; exact HT.out, HB1.out⟩
  · have hbig' : ¬ (100 : Int) < (l.length : Int) := by omega
    obtain ⟨i0, hi0, hy0, hy1, hy2⟩ := info_parts infoInt
    obtain ⟨i1, hi1, hz0, hz1', hz2⟩ := info_parts infoCond
    have HI0 := Lib.hid hi0; have HI1 := Lib.hid hy0; have HI2 := Lib.hid hy1; have HI3 := Lib.hid hy2
    have HJ0 := Lib.hid hi1; have HJ1 := Lib.hid hz0; have HJ2 := Lib.hid hz1'; have HJ3 := Lib.hid hz2
    have hA1 := (hT1.alloc (.cells #[.int .i64 c.op, .slice c.ka c.kn c.kc, .string c.text, .int .i64 c.low, .int .i64 c.high, .slice c.aa c.an c.ac] 26)).rows
    have HU1 := Lib.hid (hT1.alloc (.cells #[.int .i64 c.op, .slice c.ka c.kn c.kc, .string c.text, .int .i64 c.low, .int .i64 c.high, .slice c.aa c.an c.ac] 26)).deps
    have hs1 : B ≤ ((w.alloc (.cells #[.int .i64 c.op, .slice c.ka c.kn c.kc, .string c.text, .int .i64 c.low, .int .i64 c.high, .slice c.aa c.an c.ac] 26)).alloc (.cells #[.int .i64 c.op, .slice c.ka c.kn c.kc, .string c.text, .int .i64 c.low, .int .i64 c.high, .slice c.aa c.an c.ac] 26)).heap.size := by simp; omega
    have HS1 := Lib.hid hs1
    have HSIX := Lib.hid (six_new (w := w.alloc (.cells #[.int .i64 c.op, .slice c.ka c.kn c.kc, .string c.text, .int .i64 c.low, .int .i64 c.high, .slice c.aa c.an c.ac] 26)) (c0 := .int .i64 c.op) (c1 := .slice c.ka c.kn c.kc) (c2 := .string c.text) (c3 := .int .i64 c.low) (c4 := .int .i64 c.high) (c5 := .slice c.aa c.an c.ac) (t := 26) (w.heap.size + 1) hz1)
    have HS1' : B ≤ (w.alloc (.cells #[.int .i64 c.op, .slice c.ka c.kn c.kc, .string c.text, .int .i64 c.low, .int .i64 c.high, .slice c.aa c.an c.ac] 26)).heap.size := by omega
    have HB1 := Lib.hid hb1; have HBW := Lib.hid hBw
    have HBB1 := Lib.hid (hb1.trans ((Below.refl _ _).alloc HS1' (.cells #[.int .i64 c.op, .slice c.ka c.kn c.kc, .string c.text, .int .i64 c.low, .int .i64 c.high, .slice c.aa c.an c.ac] 26)))
    have HKID := Lib.hid (fun W (hb : Below w0.heap.size w0 W) => (Cnd.In.keep hb HI.out).kid)
    have HPP := Lib.hid (hP.alloc (.cells #[.int .i64 c.op, .slice c.ka c.kn c.kc, .string c.text, .int .i64 c.low, .int .i64 c.high, .slice c.aa c.an c.ac] 26))
    obtain ⟨q0, q1, q2, q3, q4, q5⟩ := hP.six
    clear hT hT1 hI hF hne hb1 hi0 hy0 hy1 hy2 hi1 hz0 hz1' hz2 hBw hB1
    have hsl : (flatC l).length = l.length * 6 := hA1.1
    by_cases hdeep : 12 < d
    · have hdeep' : (12 : Int) < (d : Int) := by omega
      have HA := Lib.hid (Cnd.ahead_deep HNE.out (d := d) (l := l) (by omega) hdeep)
      clear hdeep
      go_enter Tryz.func34, Tryz.ntmps34
      go_wp2_with (first
        | (at_builtin; refine wpList_append_own2 _ rfl _ _ 23 rfl B 26 i1 (.agg #[.int .i64 0, .slice none 0 0, .string ByteArray.empty, .int .i64 0, .int .i64 0, .slice none 0 0]) 6 88 Tryz.underlying23 HJ0.out HJ1.out HJ2.out HJ3.out rfl (by decide) _ _ _ rfl hA1 ⟨w.heap.size + 1, 0, none⟩ 1 1 [.int .i64 c.op, .slice c.ka c.kn c.kc, .string c.text, .int .i64 c.low, .int .i64 c.high, .slice c.aa c.an c.ac] rfl (by decide) rfl HSIX.out (by simp [Value.oneCell']) (by unfold maxLen; omega) (by omega) HS1.out ?_; intro g5 cap5 w5 hown5 hgrow5 hnew5; obtain ⟨hU6, hB5, hS6⟩ := TwoC.step1 hA1 HU1.out HS1.out hgrow5 (.cells #[.int .i64 (d : Int)] 3); have HOWN5 := Lib.hid hown5; have HB5 := Lib.hid hB5; have hP5 := HPP.out.grown hgrow5 HV1.out; clear hown5 hgrow5 hnew5 hB5)
        | (at_builtin; refine wpList_append_own2 _ rfl _ _ 30 rfl B 3 i0 (.int .i64 0) 1 8 Tryz.underlying30 HI0.out HI1.out HI2.out HI3.out rfl (by decide) _ _ _ rfl hU6 ⟨w5.heap.size, 0, none⟩ 1 1 [.int .i64 (d : Int)] rfl (by decide) rfl (cell_one_new _ _ _) (by simp [Value.oneCell']) (by unfold maxLen; omega) (by omega) hS6 ?_; intro g6 cap6 w6 hown6 hgrow6 hnew6; have HO6 := Lib.hid hown6; have HG6 := Lib.hid hgrow6; have HU6 := Lib.hid hU6; have hP6 := (hP5.alloc (.cells #[.int .i64 (d : Int)] 3)).grown hgrow6 HU0.out; obtain ⟨t0, t1, t2, t3, t4, t5⟩ := hP6.six; clear hP5; clear hown6 hgrow6 hnew6 hU6))
      have hT6 := TwoC.next (c := c) (d := d) HC.out HOWN5.out HO6.out (.cells #[.int .i64 (d : Int)] 3) HG6.out HU6.out
      have hB6 := HBB1.out.trans (HB5.out.trans (TwoC.step2 HU6.out HG6.out hS6))
      have HT6 := Lib.hid hT6
      have HB6 := Lib.hid hB6
      clear hT6 hB6
      go_ret2
      exact ⟨_, _, rfl, by rw [HA.out]; exact HT6.out, HB6.out⟩
    · have hdeep' : ¬ (12 : Int) < (d : Int) := by omega
      have HA := Lib.hid (Cnd.ahead_eq HNE.out (d := d) (l := l) (by omega) (by omega))
      obtain ⟨f, hf⟩ : ∃ f, (fun i => Cnd.ahead (c.kids i) (d + 1)) = f := ⟨_, rfl⟩
      have HFF := Lib.hid hf
      rw [hf] at HA
      clear hf hdeep
      go_enter Tryz.func34, Tryz.ntmps34
      go_wp2_with (first
        | (at_builtin; refine wpList_append_own2 _ rfl _ _ 23 rfl B 26 i1 (.agg #[.int .i64 0, .slice none 0 0, .string ByteArray.empty, .int .i64 0, .int .i64 0, .slice none 0 0]) 6 88 Tryz.underlying23 HJ0.out HJ1.out HJ2.out HJ3.out rfl (by decide) _ _ _ rfl hA1 ⟨w.heap.size + 1, 0, none⟩ 1 1 [.int .i64 c.op, .slice c.ka c.kn c.kc, .string c.text, .int .i64 c.low, .int .i64 c.high, .slice c.aa c.an c.ac] rfl (by decide) rfl HSIX.out (by simp [Value.oneCell']) (by unfold maxLen; omega) (by omega) HS1.out ?_; intro g5 cap5 w5 hown5 hgrow5 hnew5; obtain ⟨hU6, hB5, hS6⟩ := TwoC.step1 hA1 HU1.out HS1.out hgrow5 (.cells #[.int .i64 (d : Int)] 3); have HOWN5 := Lib.hid hown5; have HB5 := Lib.hid hB5; have hP5 := HPP.out.grown hgrow5 HV1.out; clear hown5 hgrow5 hnew5 hB5)
        | (at_builtin; refine wpList_append_own2 _ rfl _ _ 30 rfl B 3 i0 (.int .i64 0) 1 8 Tryz.underlying30 HI0.out HI1.out HI2.out HI3.out rfl (by decide) _ _ _ rfl hU6 ⟨w5.heap.size, 0, none⟩ 1 1 [.int .i64 (d : Int)] rfl (by decide) rfl (cell_one_new _ _ _) (by simp [Value.oneCell']) (by unfold maxLen; omega) (by omega) hS6 ?_; intro g6 cap6 w6 hown6 hgrow6 hnew6; have HO6 := Lib.hid hown6; have HG6 := Lib.hid hgrow6; have HU6 := Lib.hid hU6; have hP6 := (hP5.alloc (.cells #[.int .i64 (d : Int)] 3)).grown hgrow6 HU0.out; obtain ⟨t0, t1, t2, t3, t4, t5⟩ := hP6.six; clear hP5; clear hown6 hgrow6 hnew6 hU6))
      have hT6 := TwoC.next (c := c) (d := d) HC.out HOWN5.out HO6.out (.cells #[.int .i64 (d : Int)] 3) HG6.out HU6.out
      have hB6 := HBB1.out.trans (HB5.out.trans (TwoC.step2 HU6.out HG6.out hS6))
      have HT6 := Lib.hid hT6
      have HB6 := Lib.hid hB6
      clear hT6 hB6
      clear hA1
      go_loopg [2, 3, 32] c.kn (fun gk s2 s3 i wr => ∃ j : Nat, j ≤ c.kn ∧ gk = c.kn - j ∧ i = .int .i64 j ∧ TwoC wr B s2 s3 (Cnd.aheadK f j (l ++ [(c, d)])) ∧ Below B w wr)
      case atStart => exact ⟨0, by omega, rfl, rfl, HT6.out, HB6.out⟩
      case round =>
        obtain ⟨j, hj, rfl, rfl, hT, hB⟩ := hrel
        have HT := Lib.hid hT; clear hT
        by_cases hlt : j < c.kn
        · have hb0 : Below w0.heap.size w0 wr := HBW.out.trans (hB.mono hB0)
          obtain ⟨b, off, hka, hbl, hcell⟩ := HKID.out wr hb0 (by omega)
          rw [hka]
          obtain ⟨c0, c1, c2, c3, c4, c5⟩ := hcell j hlt
          clear hcell
          have hlen : (Cnd.aheadK f j (l ++ [(c, d)])).length ≤ 101 := by rw [← HFF.out]; exact Cnd.aheadK_len _ (fun i l h => Cnd.ahead_len _ _ _ h) j _ (by rw [List.length_append]; simp; omega)
          obtain ⟨x, hx⟩ : ∃ x, c.kids j = x := ⟨_, rfl⟩
          have hCALL : ∀ W, Below wr.heap.size wr W → Calls Tryz.prog 34 #[.agg #[.int .i64 x.op, .slice x.ka x.kn x.kc, .string x.text, .int .i64 x.low, .int .i64 x.high, .slice x.aa x.an x.ac], .int .i64 ((d : Int) + 1), u2, u3] W (AheadPost W B (Cnd.aheadK f (j + 1) (l ++ [(c, d)]))) := by
            intro W hW
            have hs := hB.size
            have h1 := HIH.out j (d + 1) (Cnd.aheadK f j (l ++ [(c, d)])) W u2 u3 (HI.out.each j hlt) (HF.out.each j hlt) (hb0.trans (hW.mono hb0.size)) (by omega) hlen (by have := hW.size; omega) (HT.out.below hW)
            rw [hx] at h1
            rw [show ((d + 1 : Nat) : Int) = (d : Int) + 1 by omega] at h1
            rw [Cnd.aheadK, ← HFF.out]
            simp only [hx]
            rw [HFF.out]
            exact h1
          have HCALL := Lib.hid hCALL
          rw [hx] at c0 c1 c2 c3 c4 c5
          have HXX := Lib.hid hx
          clear hCALL hx hlen
          have hBx := below_allocs (Below.refl wr.heap.size wr) (.cells #[.int .i64 x.op, .slice x.ka x.kn x.kc, .string x.text, .int .i64 x.low, .int .i64 x.high, .slice x.aa x.an x.ac] 26)
          have HBX := Lib.hid hBx
          have hsB : B ≤ wr.heap.size := by have := hB.size; omega
          go_wp2_with (go_at_call 34; refine (HCALL.out _ HBX.out).mono ?_; rintro e w7 ⟨v7, u7, rfl, hT7, hB7⟩; have HT7 := Lib.hid hT7; have HB7 := Lib.hid (hB.trans ((HBX.out.mono hsB).trans hB7)); clear hT7 hB7)
          rw [← hka]
          go_roundg (c.kn - (j + 1))
          case rel => exact ⟨j + 1, by omega, rfl, by go_num, HT7.out, HB7.out⟩
          case measure => omega
        · obtain rfl : j = c.kn := by omega
          go_wp2_with fail
          go_ret2
          exact ⟨_, _, rfl, by rw [HA.out]; exact HT.out, hB⟩
end Go.Proofs.YtngbaljmlbdfkaaGreatDoor
