/- nodeOf: the node of a condition that is right. -/
import Derived.Test.YtipmegkmkbbklaaHdCl
import Derived.Test.YtipmegkmkbbklaaPhRow
import Derived.Deep.RegionHeld3
import Derived.Test.YtipmegkmkbbklaaInts
import Derived.Test.YtipmegkmkbbklaaFdLib
namespace Go.Proofs.Ytipmegkmkbbklaa
open Go.RowKit Go.Sort Go.Shelf
set_option linter.unusedVariables false
theorem infoNode : (Try.prog.info? 94).map (fun i => (i.zero, i.size, i.bytes)) = some (some .nilIface, 1, 16) := by kernel_rfl
theorem Dm.lt {w0 w w' : World} {b : Nat} (h0 : w0.heap.size ≤ w.heap.size) (h1 : w.heap.size ≤ w'.heap.size) (h : Dm w0 w w' b) : b < w'.heap.size := by
  rcases h with h | h <;> omega
theorem AskIs.keep {f : Ph → Bool} {D : Nat → Prop} {w V : World} {g : Nat} {lb : Array Value} (h : AskIs f D w g lb) (hV : ∀ b, D b → V.heap[b]? = w.heap[b]?) : AskIs f D V g lb :=
  ⟨h.1, fun V' p h' hI hR => h.2 V' p (fun b hb => (h' b hb).trans (hV b hb)) hI hR⟩
/-- The kids that are made so far. -/
structure Kids (w0 w W1 : World) (c : Cnd) (j : Nat) (v : Value) (wr : World) : Prop where
  rows : ∃ xs, wr.ownsRow W1.heap.size 94 1 v j xs ∧ ∀ k, k < j → ∃ x D, xs[k]? = some x ∧ NodeIs (fun p => (c.kids k).holds p) D wr x ∧ ∀ b, D b → (b < w0.heap.size ∨ w.heap.size ≤ b) ∧ b < wr.heap.size ∧ v.ownBlock ≠ some b
  bel : Below W1.heap.size W1 wr
theorem Kids.next {w0 w W1 : World} {c : Cnd} {j : Nat} {v x : Value} {wr w7 w8 : World} {g cap : Nat} {E : Nat → Prop} (h : Kids w0 w W1 c j v wr) (hw0 : w0.heap.size ≤ w.heap.size) (hw : w.heap.size ≤ W1.heap.size) (hB7 : Below wr.heap.size wr w7) (hx : NodeIs (fun p => (c.kids j).holds p) E w7 x) (hE : ∀ b, E b → b < w0.heap.size ∨ (wr.heap.size ≤ b ∧ b < w7.heap.size)) (o : Obj)
    (xs : List Value) (hxs : wr.ownsRow W1.heap.size 94 1 v j xs) (hall : ∀ k, k < j → ∃ x D, xs[k]? = some x ∧ NodeIs (fun p => (c.kids k).holds p) D wr x ∧ ∀ b, D b → (b < w0.heap.size ∨ w.heap.size ≤ b) ∧ b < wr.heap.size ∧ v.ownBlock ≠ some b)
    (hown : w8.ownsRow W1.heap.size 94 1 (.slice (some ⟨g, 0, none⟩) (j + 1) cap) (j + 1) (xs ++ [x])) (hgr : (w7.alloc o).grownBy w8 v.ownBlock) (hnew : NewOr (w7.alloc o) v.ownBlock g) : Kids w0 w W1 c (j + 1) (.slice (some ⟨g, 0, none⟩) (j + 1) cap) w8 := by
  have hs7 := hB7.size
  have hs8 : w7.heap.size + 1 ≤ w8.heap.size := by have := hgr.size; simp at this; omega
  have hWr := h.bel.size
  have hlen : xs.length = j := by have := hxs.1; omega
  have hbl : ∀ b, b < w7.heap.size → v.ownBlock ≠ some b → w8.heap[b]? = w7.heap[b]? := by
    intro b hb hne
    rw [hgr.block b (by simp; omega) (fun e => hne e.symm)]
    exact Below.heap_alloc w7 o b hb
  have hlt : ∀ b, v.ownBlock = some b → W1.heap.size ≤ b ∧ b < wr.heap.size := hxs.lt
  refine ⟨⟨_, hown, ?_⟩, ?_⟩
  · intro k hk
    by_cases e : k = j
    · subst e
      refine ⟨x, E, by rw [List.getElem?_append_right (by omega)]; simp [hlen], hx.keep fun b hb => hbl b ?_ ?_, fun b hb => ⟨?_, ?_, ?_⟩⟩
      · rcases hE b hb with h1 | h1 <;> omega
      · intro e; have := hlt b e; rcases hE b hb with h1 | h1 <;> omega
      · rcases hE b hb with h1 | h1 <;> omega
      · rcases hE b hb with h1 | h1 <;> omega
      · intro e
        have e : g = b := by simpa [Value.ownBlock] using e
        subst e
        rcases hnew with h1 | h1
        · have := hlt g h1; rcases hE g hb with h2 | h2 <;> omega
        · simp at h1; rcases hE g hb with h2 | h2 <;> omega
    · obtain ⟨y, D, hy, hN, hD⟩ := hall k (by omega)
      refine ⟨y, D, by rw [List.getElem?_append_left (by omega)]; exact hy, hN.keep fun b hb => ?_, fun b hb => ⟨(hD b hb).1, ?_, ?_⟩⟩
      · have := hD b hb
        exact (hbl b (by omega) this.2.2).trans (hB7.block b this.2.1)
      · have := hD b hb; omega
      · intro e
        have e : g = b := by simpa [Value.ownBlock] using e
        subst e
        have h3 := hD g hb
        rcases hnew with h1 | h1
        · exact h3.2.2 h1
        · simp at h1; omega
  · refine h.bel.trans ((hB7.mono hWr).trans ?_)
    have hal : Below W1.heap.size w7 (w7.alloc o) := (Below.refl _ _).alloc (by omega) o
    refine hal.trans ⟨hgr.os, hgr.tape, hgr.output, hgr.size, fun b hb => hgr.block b (by simp; omega) fun e => ?_⟩
    have := hlt b e.symm; omega
set_option maxRecDepth 100000 in
set_option maxHeartbeats 8000000 in
theorem nodeOf_is (w0 : World) (hmx : MxL w0) : ∀ (c : Cnd) (w : World), c.In w0 → c.Fits → c.Good → Below w0.heap.size w0 w →
    Calls Try.prog 57 #[.agg #[.int .i64 c.op, .slice c.ka c.kn c.kc, .string c.text, .int .i64 c.low, .int .i64 c.high, .slice c.aa c.an c.ac]] w fun e w' => ∃ v, e = .returned v ∧ NodeIs (fun p => c.holds p) (Dm w0 w w') w' v ∧ Below w.heap.size w w' := by
  refine Cnd.ind (fun w h => absurd rfl h.ne) fun c hne ih w hI hF hG h0 => ?_
  obtain ⟨i0, hi0, hy0, hy1, hy2⟩ := info_parts infoNode
  have HI0 := Lib.hid hi0; have HI1 := Lib.hid hy0; have HI2 := Lib.hid hy1; have HI3 := Lib.hid hy2
  obtain ⟨hkn, han, hts⟩ := hF.size
  have hfew := hG.few
  obtain ⟨W1, hW1, hP, hz1, hB1⟩ := box w #[.int .i64 c.op, .slice c.ka c.kn c.kc, .string c.text, .int .i64 c.low, .int .i64 c.high, .slice c.aa c.an c.ac] 53
  have HW1 := Lib.hid hW1
  have HIH := Lib.hid ih; have HI := Lib.hid hI; have HF := Lib.hid hF; have HG := Lib.hid hG; have H0 := Lib.hid h0
  have HPP := Lib.hid hP
  have HOP := Lib.hid hG.op
  have HEQ := Lib.hid (fun p => Cnd.holds_eq (p := p) hne)
  have HASK := Lib.hid (fun (h4 : 4 ≤ c.op) W (hb : Below w0.heap.size w0 W) => asking_is c hG h4 w0 W hI hb hmx)
  have HK1 := Lib.hid hG.kid1
  obtain ⟨l0, l1, l2, l3, l4, l5⟩ := hP.six
  clear ih hI hF hG hW1 hi0 hy0 hy1 hy2 hP hne
  have hw0 := h0.size
  go_enter Try.func57, Try.ntmps57
  go_upto_region 2 with fail
  rw [HW1.out]
  go_wp2_with fail
  go_loopg [3, 9] c.kn (fun gk s3 i wr => ∃ j : Nat, j ≤ c.kn ∧ gk = c.kn - j ∧ i = .int .i64 j ∧ Kids w0 w W1 c j s3 wr)
  case atStart => exact ⟨0, by omega, rfl, rfl, ⟨[], World.ownsRow_nil _ _ _ _, fun k hk => by omega⟩, Below.refl _ _⟩
  case round =>
    obtain ⟨j, hj, rfl, rfl, hK⟩ := hrel
    have HK := Lib.hid hK
    have hBr := below_up hB1 hK.bel
    by_cases hlt : j < c.kn
    · obtain ⟨xs, hown, hall⟩ := hK.rows
      have hb0 : Below w0.heap.size w0 wr := H0.out.trans (hBr.mono hw0)
      obtain ⟨b, off, hka, hbl, hcell⟩ := (Cnd.In.keep hb0 HI.out).kid (by omega)
      rw [hka]
      obtain ⟨c0, c1, c2, c3, c4, c5⟩ := hcell j hlt
      clear hcell
      obtain ⟨x, hx⟩ : ∃ x, c.kids j = x := ⟨_, rfl⟩
      obtain ⟨W4, hW4⟩ : ∃ W4, wr.alloc (.cells #[.int .i64 x.op, .slice x.ka x.kn x.kc, .string x.text, .int .i64 x.low, .int .i64 x.high, .slice x.aa x.an x.ac] 53) = W4 := ⟨_, rfl⟩
      have hB4 : Below wr.heap.size wr W4 := by rw [← hW4]; exact below_allocs (Below.refl _ _) _
      have hX := Blk.new wr #[.int .i64 x.op, .slice x.ka x.kn x.kc, .string x.text, .int .i64 x.low, .int .i64 x.high, .slice x.aa x.an x.ac] 53
      rw [hW4] at hX
      have HCALL := Lib.hid (HIH.out j W4 (HI.out.each j hlt) (HF.out.each j hlt) (HG.out.each j hlt) (hb0.trans (hB4.mono hb0.size)))
      rw [hx] at HCALL c0 c1 c2 c3 c4 c5
      have HX := Lib.hid hx
      have HW4 := Lib.hid hW4; have HALL := Lib.hid hall; have HOWN := Lib.hid hown; have HB0 := Lib.hid hb0
      clear hx hW4 hall hown hK l0 l1 l2 l3 l4 l5
      obtain ⟨x0, x1, x2, x3, x4, x5⟩ := hX.six
      have hs4 := hB4.size
      go_upto_region 5 with fail
      rw [HW4.out]
      go_wp2_with (first
        | (go_at_call 57; (with_reducible refine HCALL.out.mono ?_); rintro e w7 ⟨v7, rfl, hN7, hB7⟩; obtain ⟨T7, u7, rfl⟩ : ∃ T u, v7 = .iface T u := by { obtain ⟨T, u, g, hv, _⟩ := hN7; exact ⟨T, u, hv⟩ }; have HN7 := Lib.hid hN7; have hB47 := below_up hB4 hB7; have HOWN7 := Lib.hid ((own_keepH HOWN.out hB47).alloc (.cells #[.iface T7 u7] 94)); clear hN7)
        | (at_builtin; refine wpList_append_own2 _ rfl _ _ 119 rfl W1.heap.size 94 i0 .nilIface 1 16 Try.underlying119 HI0.out HI1.out HI2.out HI3.out rfl (by decide) _ _ _ rfl HOWN7.out ⟨w7.heap.size, 0, none⟩ 1 1 [.iface T7 u7] rfl (by decide) rfl (cell_one_new _ _ _) (by simp [Value.oneCell']) (by unfold maxLen; omega) (by omega) (by have := hB47.size; have := hBr.size; have := HK.out.bel.size; simp; omega) ?_; intro g8 cap8 w8 hown8 hgrow8 hnew8))
      have HK8 := Lib.hid (HK.out.next (E := Dm w0 W4 w7) hw0 hB1.size hB47 (by rw [HX.out]; exact HN7.out) (fun b hb => by rcases hb with h | h; exact .inl h; right; omega) _ _ HOWN.out HALL.out hown8 hgrow8 hnew8)
      clear hown8 hgrow8 hnew8
      rw [← hka]
      go_roundg (c.kn - (j + 1))
      case rel => exact ⟨j + 1, by omega, rfl, by go_num, HK8.out⟩
      case measure => omega
    · obtain rfl : j = c.kn := by omega
      obtain ⟨xs, hown, hall⟩ := hK.rows
      obtain ⟨a3, ca3, rfl, hrow⟩ := own_rowH hown
      have hbel := hK.bel
      have hs1 := hB1.size
      have hs2 := hbel.size
      have HROW := Lib.hid (fun (V : World) (hV : ∀ b, Dm w0 w wr b → V.heap[b]? = wr.heap[b]?) => hrow V (fun b h1 h2 => hV b (.inr ⟨by omega, h2⟩)))
      have HDL := Lib.hid (fun (V : World) (hV : ∀ b, Dm w0 w wr b → V.heap[b]? = wr.heap[b]?) (b : Nat) (hb : Dm w0 w wr b) => show b < V.heap.size by
        have hlt : b < wr.heap.size := by rcases hb with h | h <;> omega
        have := hV b hb
        rcases Nat.lt_or_ge b V.heap.size with h' | h'
        · exact h'
        · rw [Array.getElem?_eq_none h', Array.getElem?_eq_getElem hlt] at this; cases this)
      have HNS := Lib.hid (fun (V : World) (hV : ∀ b, Dm w0 w wr b → V.heap[b]? = wr.heap[b]?) (k : Nat) (hk : k < c.kn) => show NodeIs (fun p => (c.kids k).holds p) (Dm w0 w wr) V (xs[k]?.getD .nilIface) by
        obtain ⟨x, D, hx, hN, hD⟩ := hall k hk
        rw [hx]
        refine (NodeIs.wide hN fun b hb => ?_).keep hV
        have := hD b hb
        rcases this.1 with h | h
        · exact .inl h
        · exact .inr ⟨h, this.2.1⟩)
      clear hrow hall l0 l1 l2 l3 l4 l5
      obtain ⟨l0, l1, l2, l3, l4, l5⟩ := (HPP.out.keep hbel).six
      have HBR := Lib.hid hBr
      obtain ⟨k, hk⟩ : ∃ k, c.op = k := ⟨_, rfl⟩
      have HKK := Lib.hid hk
      rw [hk] at l0
      clear hk hK
      by_cases k1 : k = 1
      · subst k1
        go_wp2_with fail
        go_ret
        refine ⟨_, rfl, ⟨120, _, _, rfl, nil_all _, meth_all _, eg_all, fun V p hV hI hR => ?_⟩, HBR.out⟩
        have HEQ2 := HEQ.out p
        rw [if_pos HKK.out] at HEQ2
        refine (allHolds_is p hR (fun i p => (c.kids i).holds p) (Dm w0 w wr) a3 c.kn ca3 _ V (HROW.out V hV) (HDL.out V hV) (HNS.out V hV) hkn hI).mono ?_
        rintro e w' ⟨rfl, hb⟩
        exact ⟨by show _ = Ending.returned (.bool (c.holds p)); rw [HEQ2], hb⟩
      have hk1 : (k == 1) = false := by simpa using k1
      by_cases k2 : k = 2
      · subst k2
        go_wp2_with fail
        go_ret
        refine ⟨_, rfl, ⟨121, _, _, rfl, nil_some _, meth_some _, eg_some, fun V p hV hI hR => ?_⟩, HBR.out⟩
        have HEQ2 := HEQ.out p
        rw [if_neg (by rw [HKK.out]; decide), if_pos HKK.out] at HEQ2
        refine (someHolds_is p hR (fun i p => (c.kids i).holds p) (Dm w0 w wr) a3 c.kn ca3 _ V (HROW.out V hV) (HDL.out V hV) (HNS.out V hV) hkn hI).mono ?_
        rintro e w' ⟨rfl, hb⟩
        exact ⟨by show _ = Ending.returned (.bool (c.holds p)); rw [HEQ2], hb⟩
      have hk2 : (k == 2) = false := by simpa using k2
      by_cases k3 : k = 3
      · subst k3
        have hkn1 := HK1.out HKK.out
        have hN0 := HNS.out wr (fun _ _ => rfl) 0 (by omega)
        obtain ⟨b3, off3, rfl, hb3, hcell⟩ := HROW.out wr (fun _ _ => rfl) (by omega)
        have c0 := hcell 0 (by omega)
        obtain ⟨y, hy⟩ : ∃ y, xs[0]?.getD .nilIface = y := ⟨_, rfl⟩
        rw [hy] at hN0
        simp only [Nat.add_zero, hy] at c0
        obtain ⟨T0, u0, rfl⟩ : ∃ T u, y = .iface T u := by obtain ⟨T, u, g, hv, _⟩ := hN0; exact ⟨T, u, hv⟩
        have HN0 := Lib.hid hN0
        have hkz : (0 : Int) < (c.kn : Int) := by omega
        clear hN0 hy hcell hkn1
        go_wp2_with fail
        go_ret
        refine ⟨_, rfl, ⟨123, _, _, rfl, nil_no _, meth_no _, eg_no, fun V p hV hI hR => ?_⟩, HBR.out⟩
        have HEQ2 := HEQ.out p
        rw [if_neg (by rw [HKK.out]; decide), if_neg (by rw [HKK.out]; decide), if_pos HKK.out] at HEQ2
        refine (noHolds_is p hR (fun p => (c.kids 0).holds p) (Dm w0 w wr) _ V (HDL.out V hV) (HN0.out.keep hV) hI).mono ?_
        rintro e w' ⟨rfl, hb⟩
        exact ⟨by show _ = Ending.returned (.bool (c.holds p)); rw [HEQ2], hb⟩
      have hk3 : (k == 3) = false := by simpa using k3
      have h4 : 4 ≤ k := by have := HOP.out; rw [HKK.out] at this; omega
      have h0r : Below w0.heap.size w0 wr := H0.out.trans (HBR.out.mono hw0)
      have HA := Lib.hid (HASK.out (by rw [HKK.out]; exact h4) wr.drew (h0r.drew))
      rw [HKK.out] at HA
      have hPd := (HPP.out.keep hbel).drew
      have HKN := Lib.hid (And.intro k1 (And.intro k2 k3))
      clear k1 k2 k3 h4
      go_wp2_with fail
      clear l0 l1 l2 l3 l4 l5
      rw [HKK.out] at hPd
      obtain ⟨l0, l1, l2, l3, l4, l5⟩ := hPd.six
      go_region_held3 (fun w' => w'.cell? ⟨w.heap.size, 0, none⟩ = some (.int .i64 k) ∧ w'.cell? ⟨w.heap.size, 1, none⟩ = some (.slice c.ka c.kn c.kc) ∧ w'.cell? ⟨w.heap.size, 2, none⟩ = some (.string c.text) ∧ w'.cell? ⟨w.heap.size, 3, none⟩ = some (.int .i64 c.low) ∧ w'.cell? ⟨w.heap.size, 4, none⟩ = some (.int .i64 c.high) ∧ w'.cell? ⟨w.heap.size, 5, none⟩ = some (.slice c.aa c.an c.ac))
        (first | with_reducible exact ⟨l0, l1, l2, l3, l4, l5⟩)
        (first | (go_at_call 92; (with_reducible refine HA.out.mono ?_); rintro e w5 ⟨g5, lb5, rfl, hA5, hB5⟩; obtain ⟨l0, l1, l2, l3, l4, l5⟩ := (hPd.keep hB5).six))
      go_wp2_with fail
      go_ret
      refine ⟨_, rfl, ⟨126, _, _, rfl, nil_leaf _, meth_leaf _, eg_leaf, fun V p hV hI hR => ?_⟩, HBR.out.trans ((Below.refl _ wr).drew.trans (hB5.mono (by have := HBR.out.size; exact this)))⟩
      have hsz : w.heap.size ≤ wr.heap.size := HBR.out.size
      have hs5 : wr.heap.size ≤ w5.heap.size := hB5.size
      have hDm : ∀ b, Dm w0 wr.drew w5 b → Dm w0 w w5 b := fun b hb => hb.imp id (fun h => ⟨Nat.le_trans hsz h.1, h.2⟩)
      have hDV : ∀ b, Dm w0 wr.drew w5 b → b < V.heap.size := by
        intro b hb
        have hlt : b < w5.heap.size := Dm.lt (Nat.le_trans hw0 hsz) hs5 hb
        have := hV b (hDm b hb)
        rcases Nat.lt_or_ge b V.heap.size with h' | h'
        · exact h'
        · rw [Array.getElem?_eq_none h', Array.getElem?_eq_getElem hlt] at this; cases this
      have hAV := hA5.keep (V := V) fun b hb => hV b (hDm b hb)
      have HEQ2 := HEQ.out p
      rw [if_neg (by rw [HKK.out]; exact HKN.out.1), if_neg (by rw [HKK.out]; exact HKN.out.2.1), if_neg (by rw [HKK.out]; exact HKN.out.2.2), HKK.out] at HEQ2
      refine (leafHolds_is p hR _ _ g5 lb5 k c.ka c.kn c.kc c.text c.low c.high c.aa c.an c.ac V hDV hAV hI).mono ?_
      rintro e w' ⟨rfl, hb⟩
      exact ⟨by show _ = Ending.returned (.bool (c.holds p)); rw [HEQ2], hb⟩
end Go.Proofs.Ytipmegkmkbbklaa
namespace Go.Proofs.Ytipmegkmkbbklaa
open Go.RowKit Go.Sort Go.Shelf
set_option linter.unusedVariables false
namespace Fd
/-- The photos among the first n for which f says true. -/
def sel (f : Ph → Bool) (x : Nat → Ph) : Nat → List Ph
  | 0 => []
  | n + 1 => if f (x n) then sel f x n ++ [x n] else sel f x n
theorem sel_yes {f : Ph → Bool} {x : Nat → Ph} {n : Nat} (h : f (x n) = true) : sel f x (n + 1) = sel f x n ++ [x n] := by rw [sel, if_pos h]
theorem sel_no {f : Ph → Bool} {x : Nat → Ph} {n : Nat} (h : f (x n) = false) : sel f x (n + 1) = sel f x n := by rw [sel, if_neg (by rw [h]; decide)]
theorem sel_le (f : Ph → Bool) (x : Nat → Ph) (n : Nat) : (sel f x n).length ≤ n := by
  induction n with
  | zero => exact Nat.le_refl _
  | succ n ih =>
    unfold sel
    split
    · rw [List.length_append, List.length_singleton]; omega
    · omega
theorem sel_mem {f : Ph → Bool} {x : Nat → Ph} {n : Nat} {p : Ph} (h : p ∈ sel f x n) : ∃ i, i < n ∧ p = x i := by
  induction n with
  | zero => simp [sel] at h
  | succ n ih =>
    unfold sel at h
    split at h
    · rcases List.mem_append.1 h with g | g
      · obtain ⟨i, hi, e⟩ := ih g; exact ⟨i, by omega, e⟩
      · exact ⟨n, by omega, by simpa using g⟩
    · obtain ⟨i, hi, e⟩ := ih h; exact ⟨i, by omega, e⟩
/-- The Ids of the first n photos. -/
def idsL (x : Nat → Ph) (n : Nat) : List Int := (List.range n).map fun i => (x i).id
theorem idsL_succ (x : Nat → Ph) (n : Nat) : idsL x (n + 1) = idsL x n ++ [(x n).id] := by simp [idsL, List.range_succ]
theorem idsL_len (x : Nat → Ph) (n : Nat) : (idsL x n).length = n := by simp [idsL]
end Fd
def PhsPost (w : World) (L : List Ph) (e : Ending) (w' : World) : Prop :=
  ∃ a ca, e = .returned (.slice a L.length ca) ∧ L.length ≤ ca ∧ ca ≤ 9223372036854775807 ∧ Phs w' a L.length (fun i => L[i]?.getD Ph.zero) ∧ Below w.heap.size w w'
def IntsPost (w : World) (xs : List Int) (e : Ending) (w' : World) : Prop :=
  ∃ a ca, e = .returned (.slice a xs.length ca) ∧ RowL w' a xs ∧ Below w.heap.size w w'
set_option maxRecDepth 100000 in
set_option maxHeartbeats 4000000 in
theorem holding_is (f : Ph → Bool) (D : Nat → Prop) (v : Value) (a : Option Addr) (n ca : Nat) (x : Nat → Ph) (w : World) (hx : Phs w a n x) (hR : ∀ i, i < n → (x i).Right) (hN : NodeIs f D w v) (hD : ∀ b, D b → b < w.heap.size) (hn : n ≤ 1000) :
    Calls Try.prog 59 #[.slice a n ca, v] w (PhsPost w (Fd.sel f x n)) := by
  obtain ⟨T, u, g, rfl, hn1, hn2, eg, hcall⟩ := hN
  obtain ⟨i0, hi0, hy0, hy1, hy2⟩ := info_parts infoPhoto
  have HI0 := Lib.hid hi0; have HI1 := Lib.hid hy0; have HI2 := Lib.hid hy1; have HI3 := Lib.hid hy2
  have HX := Lib.hid hx; have HR := Lib.hid hR
  have HCALL := Lib.hid (fun V p (hb : Below w.heap.size w V) (hI : Ph.In p V) (hp : Ph.Right p) => hcall V p (fun b h => hb.block b (hD b h)) hI hp)
  clear hx hR hcall hD hi0 hy0 hy1 hy2
  go_enter Try.func59, Try.ntmps59
  go_wp2_with fail
  go_loopg [5, 10] n (fun gk v i wr => ∃ j : Nat, j ≤ n ∧ gk = n - j ∧ i = .int .i64 j ∧ wr.ownsRow w.heap.size 26 13 v (Fd.sel f x j).length (Fd.phFlat (Fd.sel f x j)) ∧ Below w.heap.size w wr)
  case atStart => exact ⟨0, by omega, rfl, rfl, World.ownsRow_nil _ _ _ _, Below.refl _ _⟩
  case round =>
    obtain ⟨j, hj, rfl, rfl, hown, hB⟩ := hrel
    have hle := Fd.sel_le f x j
    have hsz := hB.size
    by_cases hlt : j < n
    · have HXr := HX.out.keep hB
      obtain ⟨b, off, rfl, hb, hcell⟩ := HXr.row (by omega)
      obtain ⟨q0, q1, q2, q3, q4, q5, q6, q7, q8, q9, q10, q11, q12⟩ := hcell j hlt
      have hIy := HXr.each j hlt
      have hRy := HR.out j hlt
      have HY := Lib.hid (show ∀ q, f (x j) = q → Fd.sel f x (j + 1) = if q then Fd.sel f x j ++ [x j] else Fd.sel f x j from fun q hq => by rw [← hq]; rfl)
      clear hcell HXr
      generalize x j = y at *
      generalize hL : Fd.sel f x j = L at *
      obtain ⟨W4, hW4, hP, hz4, hB4⟩ := box wr #[.int .i64 y.id, .string y.file, .int .i64 y.mom, .int .i64 y.zone, .slice y.wa y.wn y.wc, .int .i64 y.W, .int .i64 y.H, .int .i64 y.turn, .int .i64 y.stars, .slice y.ta y.tn y.tc, .string y.cap, .slice y.pa y.pn y.pc, .bool y.hid] 26
      have HW4 := Lib.hid hW4
      have hB04 := below_up hB hB4
      have HC := Lib.hid (HCALL.out W4 y hB04 (hIy.keep hB4) hRy)
      have HOWN := Lib.hid (own_keepH hown hB4)
      have HL := Lib.hid hL
      clear hW4 hown hIy hRy hL
      obtain ⟨m0, m1, m2, m3, m4, m5, m6, m7, m8, m9, m10, m11, m12⟩ := hP.photo
      go_upto_region 5 with fail
      rw [HW4.out]
      clear q0 q1 q2 q3 q4 q5 q6 q7 q8 q9 q10 q11 q12
      cases hq : f y
      · have HF := Lib.hid (HY.out false hq)
        rw [hq] at HC
        clear hq HY
        go_wp2_with (go_at_fn g; refine HC.out.mono ?_; rintro e w5 ⟨rfl, hB5⟩)
        go_roundg (n - (j + 1))
        case rel => exact ⟨j + 1, by omega, rfl, by go_num, by rw [HF.out]; exact own_keepH HOWN.out hB5, below_up hB04 hB5⟩
        case measure => omega
      · have HF := Lib.hid (HY.out true hq)
        rw [hq] at HC
        clear hq HY
        go_wp2_with (first
          | (go_at_fn g; refine HC.out.mono ?_; rintro e w5 ⟨rfl, hB5⟩; have hB45 := below_up hB4 hB5; have hB05 := below_up hB hB45; have hsz5 := hB05.size; have HOWN5 := Lib.hid (own_keepH HOWN.out hB5); obtain ⟨m0, m1, m2, m3, m4, m5, m6, m7, m8, m9, m10, m11, m12⟩ := (hP.keep hB5).photo)
          | (at_builtin; refine wpList_append_own2 _ rfl _ _ 37 rfl w.heap.size 26 i0 (.agg #[.int .i64 0, .string ByteArray.empty, .int .i64 0, .int .i64 0, .slice none 0 0, .int .i64 0, .int .i64 0, .int .i64 0, .int .i64 0, .slice none 0 0, .string ByteArray.empty, .slice none 0 0, .bool false]) 13 168 Try.underlying37 HI0.out HI1.out HI2.out HI3.out rfl (by decide) _ _ _ rfl (HOWN5.out.alloc _) ⟨w5.heap.size, 0, none⟩ 1 1 (Fd.phCells y) rfl (by decide) rfl (cell_ph_new _ _ _) (phCells_one _) (by unfold maxLen; omega) (by omega) (by simp; omega) ?_; intro g8 cap8 w8 hown8 hgrow8 hnew8))
        have HOWN8 := Lib.hid hown8
        have HB8 := Lib.hid ((below_allocs hB05 (.cells #[.int .i64 y.id, .string y.file, .int .i64 y.mom, .int .i64 y.zone, .slice y.wa y.wn y.wc, .int .i64 y.W, .int .i64 y.H, .int .i64 y.turn, .int .i64 y.stars, .slice y.ta y.tn y.tc, .string y.cap, .slice y.pa y.pn y.pc, .bool y.hid] 26)).grown hgrow8 (by simp; omega) (fun k e => (HOWN5.out.lt k e).1))
        clear hown8 hgrow8 hnew8
        go_roundg (n - (j + 1))
        case rel => exact ⟨j + 1, by omega, rfl, by go_num, by rw [HF.out]; have := HOWN8.out; rw [← Fd.phFlat_snoc] at this; simpa using this, HB8.out⟩
        case measure => omega
    · obtain rfl : j = n := by omega
      obtain ⟨a1, c1, rfl, hk, hm, hrow⟩ := Phs.of_own hown (fun p hp => by obtain ⟨i, hi, rfl⟩ := Fd.sel_mem hp; exact (HX.out.each i hi).keep hB)
      have HROW := Lib.hid hrow
      clear hown hrow
      go_wp2_with fail
      go_ret
      exact ⟨a1, c1, rfl, hk, hm, HROW.out, hB⟩
set_option maxRecDepth 100000 in
set_option maxHeartbeats 4000000 in
theorem found_is (f : Ph → Bool) (c : Cnd) (a : Option Addr) (n ca : Nat) (x : Nat → Ph) (w : World) (hx : Phs w a n x) (hcall : ∀ V i, i < n → Below w.heap.size w V → Calls Try.prog 22 #[.agg #[.int .i64 (x i).id, .string (x i).file, .int .i64 (x i).mom, .int .i64 (x i).zone, .slice (x i).wa (x i).wn (x i).wc, .int .i64 (x i).W, .int .i64 (x i).H, .int .i64 (x i).turn, .int .i64 (x i).stars, .slice (x i).ta (x i).tn (x i).tc, .string (x i).cap, .slice (x i).pa (x i).pn (x i).pc, .bool (x i).hid], .agg #[.int .i64 c.op, .slice c.ka c.kn c.kc, .string c.text, .int .i64 c.low, .int .i64 c.high, .slice c.aa c.an c.ac]] V fun e w' => e = .returned (.bool (f (x i))) ∧ Below V.heap.size V w') (hn : n ≤ 1000) :
    Calls Try.prog 25 #[.slice a n ca, .agg #[.int .i64 c.op, .slice c.ka c.kn c.kc, .string c.text, .int .i64 c.low, .int .i64 c.high, .slice c.aa c.an c.ac]] w (PhsPost w (Fd.sel f x n)) := by
  obtain ⟨i0, hi0, hy0, hy1, hy2⟩ := info_parts infoPhoto
  have HI0 := Lib.hid hi0; have HI1 := Lib.hid hy0; have HI2 := Lib.hid hy1; have HI3 := Lib.hid hy2
  have HX := Lib.hid hx
  have HCALL := Lib.hid hcall
  obtain ⟨W1, hW1, hK, hz1, hB1⟩ := box w #[.int .i64 c.op, .slice c.ka c.kn c.kc, .string c.text, .int .i64 c.low, .int .i64 c.high, .slice c.aa c.an c.ac] 53
  have HW1 := Lib.hid hW1
  obtain ⟨l0, l1, l2, l3, l4, l5⟩ := hK.six
  clear hx hcall hi0 hy0 hy1 hy2 hW1 hz1
  go_enter Try.func25, Try.ntmps25
  go_upto_region 1 with fail
  rw [HW1.out]
  go_wp2_with fail
  clear l0 l1 l2 l3 l4 l5
  have hs1 := hB1.size
  go_loopg [5, 10] n (fun gk v i wr => ∃ j : Nat, j ≤ n ∧ gk = n - j ∧ i = .int .i64 j ∧ wr.ownsRow W1.heap.size 26 13 v (Fd.sel f x j).length (Fd.phFlat (Fd.sel f x j)) ∧ Below W1.heap.size W1 wr)
  case atStart => exact ⟨0, by omega, rfl, rfl, World.ownsRow_nil _ _ _ _, Below.refl _ _⟩
  case round =>
    obtain ⟨j, hj, rfl, rfl, hown, hBr⟩ := hrel
    have hle := Fd.sel_le f x j
    have hB := below_up hB1 hBr
    have hsr := hBr.size
    have hKr := hK.keep hBr
    by_cases hlt : j < n
    · have HXr := HX.out.keep hB
      obtain ⟨b, off, rfl, hb, hcell⟩ := HXr.row (by omega)
      obtain ⟨q0, q1, q2, q3, q4, q5, q6, q7, q8, q9, q10, q11, q12⟩ := hcell j hlt
      have HCJ := Lib.hid (fun V => HCALL.out V j hlt)
      have HY := Lib.hid (show ∀ q, f (x j) = q → Fd.sel f x (j + 1) = if q then Fd.sel f x j ++ [x j] else Fd.sel f x j from fun q hq => by rw [← hq]; rfl)
      clear hcell HXr
      generalize x j = y at *
      generalize hL : Fd.sel f x j = L at *
      obtain ⟨W4, hW4, hP, hz4, hB4⟩ := box wr #[.int .i64 y.id, .string y.file, .int .i64 y.mom, .int .i64 y.zone, .slice y.wa y.wn y.wc, .int .i64 y.W, .int .i64 y.H, .int .i64 y.turn, .int .i64 y.stars, .slice y.ta y.tn y.tc, .string y.cap, .slice y.pa y.pn y.pc, .bool y.hid] 26
      have HW4 := Lib.hid hW4
      have hB04 := below_up hB hB4
      have HC := Lib.hid (HCJ.out W4 hB04)
      have HOWN := Lib.hid (own_keepH hown hB4)
      have HL := Lib.hid hL
      clear hW4 hown hL HCJ
      obtain ⟨m0, m1, m2, m3, m4, m5, m6, m7, m8, m9, m10, m11, m12⟩ := hP.photo
      have hK4 := hKr.keep hB4
      obtain ⟨l0, l1, l2, l3, l4, l5⟩ := hK4.six
      go_upto_region 5 with fail
      rw [HW4.out]
      clear q0 q1 q2 q3 q4 q5 q6 q7 q8 q9 q10 q11 q12
      cases hq : f y
      · have HF := Lib.hid (HY.out false hq)
        rw [hq] at HC
        clear hq HY
        go_wp2_with (go_at_call 22; (with_reducible refine HC.out.mono ?_); rintro e w5 ⟨rfl, hB5⟩)
        go_roundg (n - (j + 1))
        case rel => exact ⟨j + 1, by omega, rfl, by go_num, by rw [HF.out]; exact own_keepH HOWN.out hB5, below_up hBr (below_up hB4 hB5)⟩
        case measure => omega
      · have HF := Lib.hid (HY.out true hq)
        rw [hq] at HC
        clear hq HY
        go_wp2_with (first
          | (go_at_call 22; (with_reducible refine HC.out.mono ?_); rintro e w5 ⟨rfl, hB5⟩; have hB45 := below_up hB4 hB5; have hB05 := below_up hBr hB45; have hsz5 := hB05.size; have HOWN5 := Lib.hid (own_keepH HOWN.out hB5); obtain ⟨m0, m1, m2, m3, m4, m5, m6, m7, m8, m9, m10, m11, m12⟩ := (hP.keep hB5).photo)
          | (at_builtin; refine wpList_append_own2 _ rfl _ _ 37 rfl W1.heap.size 26 i0 (.agg #[.int .i64 0, .string ByteArray.empty, .int .i64 0, .int .i64 0, .slice none 0 0, .int .i64 0, .int .i64 0, .int .i64 0, .int .i64 0, .slice none 0 0, .string ByteArray.empty, .slice none 0 0, .bool false]) 13 168 Try.underlying37 HI0.out HI1.out HI2.out HI3.out rfl (by decide) _ _ _ rfl (HOWN5.out.alloc _) ⟨w5.heap.size, 0, none⟩ 1 1 (Fd.phCells y) rfl (by decide) rfl (cell_ph_new _ _ _) (phCells_one _) (by unfold maxLen; omega) (by omega) (by simp; omega) ?_; intro g8 cap8 w8 hown8 hgrow8 hnew8))
        have HOWN8 := Lib.hid hown8
        have HB8 := Lib.hid ((below_allocs hB05 (.cells #[.int .i64 y.id, .string y.file, .int .i64 y.mom, .int .i64 y.zone, .slice y.wa y.wn y.wc, .int .i64 y.W, .int .i64 y.H, .int .i64 y.turn, .int .i64 y.stars, .slice y.ta y.tn y.tc, .string y.cap, .slice y.pa y.pn y.pc, .bool y.hid] 26)).grown hgrow8 (by simp; omega) (fun k e => (HOWN5.out.lt k e).1))
        clear hown8 hgrow8 hnew8
        go_roundg (n - (j + 1))
        case rel => exact ⟨j + 1, by omega, rfl, by go_num, by rw [HF.out]; have := HOWN8.out; rw [← Fd.phFlat_snoc] at this; simpa using this, HB8.out⟩
        case measure => omega
    · obtain rfl : j = n := by omega
      obtain ⟨a1, c1, rfl, hk, hm, hrow⟩ := Phs.of_own hown (fun p hp => by obtain ⟨i, hi, rfl⟩ := Fd.sel_mem hp; exact (HX.out.each i hi).keep hB)
      have HROW := Lib.hid hrow
      clear hown hrow
      go_wp2_with fail
      go_ret
      exact ⟨a1, c1, rfl, hk, hm, HROW.out, hB⟩
end Go.Proofs.Ytipmegkmkbbklaa
namespace Go.Proofs.Ytipmegkmkbbklaa
open Go.RowKit Go.Sort Go.Shelf
set_option linter.unusedVariables false
set_option maxRecDepth 100000 in
set_option maxHeartbeats 2000000 in
theorem idsF_is (a : Option Addr) (n ca : Nat) (x : Nat → Ph) (w : World) (hx : Phs w a n x) (hn : n ≤ 100000) :
    Calls Try.prog 58 #[.slice a n ca] w (IntsPost w (Fd.idsL x n)) := by
  -- f.ids: the function; go_wp2_with (go_at_call 87; (with_reducible refine (clip_ints _ _ _ _ (by omega) (by omega)).mono ?_); rintro e w9 ⟨rfl, rfl⟩): the end
  obtain ⟨i0, hi0, hy0, hy1, hy2⟩ := info_parts infoInt
  have HI0 := Lib.hid hi0; have HI1 := Lib.hid hy0; have HI2 := Lib.hid hy1; have HI3 := Lib.hid hy2
  have HX := Lib.hid hx
  clear hx hi0 hy0 hy1 hy2
  go_enter Try.func58, Try.ntmps58
  go_wp2_with fail
  go_loopg [3, 8] n (fun gk v i wr => ∃ j : Nat, j ≤ n ∧ gk = n - j ∧ i = .int .i64 j ∧ wr.ownsRow w.heap.size 3 1 v j ((Fd.idsL x j).map (Value.int .i64)) ∧ Below w.heap.size w wr)
  case atStart => exact ⟨0, by omega, rfl, rfl, World.ownsRow_nil _ _ _ _, Below.refl _ _⟩
  case round =>
    obtain ⟨j, hj, rfl, rfl, hown, hB⟩ := hrel
    have hsz := hB.size
    by_cases hlt : j < n
    · have HXr := HX.out.keep hB
      obtain ⟨b, off, rfl, hb, hcell⟩ := HXr.row (by omega)
      obtain ⟨q0, q1, q2, q3, q4, q5, q6, q7, q8, q9, q10, q11, q12⟩ := hcell j hlt
      have HY := Lib.hid (Fd.idsL_succ x j)
      clear hcell HXr
      generalize x j = y at *
      generalize hL : Fd.idsL x j = L at *
      obtain ⟨W4, hW4, hP, hz4, hB4⟩ := box wr #[.int .i64 y.id, .string y.file, .int .i64 y.mom, .int .i64 y.zone, .slice y.wa y.wn y.wc, .int .i64 y.W, .int .i64 y.H, .int .i64 y.turn, .int .i64 y.stars, .slice y.ta y.tn y.tc, .string y.cap, .slice y.pa y.pn y.pc, .bool y.hid] 26
      have HW4 := Lib.hid hW4
      have hB04 := below_up hB hB4
      have hsz4 := hB04.size
      have HOWN4 := Lib.hid (own_keepH hown hB4)
      clear hW4 hown hL hz4
      obtain ⟨m0, m1, m2, m3, m4, m5, m6, m7, m8, m9, m10, m11, m12⟩ := hP.photo
      go_upto_region 5 with fail
      rw [HW4.out]
      clear q0 q1 q2 q3 q4 q5 q6 q7 q8 q9 q10 q11 q12
      go_wp2_with (at_builtin; refine wpList_append_own2 _ rfl _ _ 24 rfl w.heap.size 3 i0 (.int .i64 0) 1 8 Try.underlying24 HI0.out HI1.out HI2.out HI3.out rfl (by decide) _ _ _ rfl (HOWN4.out.alloc _) ⟨W4.heap.size, 0, none⟩ 1 1 [.int .i64 y.id] rfl (by decide) rfl (cell_one_new _ _ _) (by simp [Value.oneCell']) (by unfold maxLen; omega) (by omega) (by simp; omega) ?_; intro g8 cap8 w8 hown8 hgrow8 hnew8)
      have HOWN8 := Lib.hid hown8
      have HB8 := Lib.hid ((below_allocs hB04 (.cells #[.int .i64 y.id] 3)).grown hgrow8 (by simp; omega) (fun k e => (HOWN4.out.lt k e).1))
      clear hown8 hgrow8 hnew8
      go_roundg (n - (j + 1))
      case rel => exact ⟨j + 1, by omega, rfl, by go_num, by rw [HY.out, List.map_append]; exact HOWN8.out, HB8.out⟩
      case measure => omega
    · obtain rfl : j = n := by omega
      have hll := Fd.idsL_len x j
      generalize Fd.idsL x j = L at *
      rcases hown.2 with ⟨rfl, h0⟩ | ⟨g, cap, cur, rfl, hg, hcell, hk, hm, _⟩
      · subst h0
        obtain rfl := List.eq_nil_of_length_eq_zero hll
        clear hown hll
        go_wp2_with (go_at_call 87; (with_reducible refine (clip_ints _ _ _ _ (by omega) (by omega)).mono ?_); rintro e w9 ⟨rfl, rfl⟩)
        go_ret
        exact ⟨none, 0, rfl, RowL.nil _ _, hB⟩
      · have hm2 : cap ≤ 9223372036854775807 := hm
        have HR := Lib.hid (RowL.of_own hown)
        have HLL := Lib.hid hll
        clear hown hcell hm hll
        go_wp2_with (go_at_call 87; (with_reducible refine (clip_ints _ _ _ _ (by omega) (by omega)).mono ?_); rintro e w9 ⟨rfl, rfl⟩)
        go_ret
        exact ⟨_, _, by rw [HLL.out]; rfl, HR.out, hB⟩
set_option maxRecDepth 100000 in
set_option maxHeartbeats 2000000 in
theorem idsR_is (a : Option Addr) (n ca : Nat) (x : Nat → Ph) (w : World) (hx : Phs w a n x) (hn : n ≤ 100000) :
    Calls Try.prog 24 #[.slice a n ca] w (IntsPost w (Fd.idsL x n)) := by
  -- R.Ids: the function; go_wp2_with fail: the end
  obtain ⟨i0, hi0, hy0, hy1, hy2⟩ := info_parts infoInt
  have HI0 := Lib.hid hi0; have HI1 := Lib.hid hy0; have HI2 := Lib.hid hy1; have HI3 := Lib.hid hy2
  have HX := Lib.hid hx
  clear hx hi0 hy0 hy1 hy2
  go_enter Try.func24, Try.ntmps24
  go_wp2_with fail
  go_loopg [3, 8] n (fun gk v i wr => ∃ j : Nat, j ≤ n ∧ gk = n - j ∧ i = .int .i64 j ∧ wr.ownsRow w.heap.size 3 1 v j ((Fd.idsL x j).map (Value.int .i64)) ∧ Below w.heap.size w wr)
  case atStart => exact ⟨0, by omega, rfl, rfl, World.ownsRow_nil _ _ _ _, Below.refl _ _⟩
  case round =>
    obtain ⟨j, hj, rfl, rfl, hown, hB⟩ := hrel
    have hsz := hB.size
    by_cases hlt : j < n
    · have HXr := HX.out.keep hB
      obtain ⟨b, off, rfl, hb, hcell⟩ := HXr.row (by omega)
      obtain ⟨q0, q1, q2, q3, q4, q5, q6, q7, q8, q9, q10, q11, q12⟩ := hcell j hlt
      have HY := Lib.hid (Fd.idsL_succ x j)
      clear hcell HXr
      generalize x j = y at *
      generalize hL : Fd.idsL x j = L at *
      obtain ⟨W4, hW4, hP, hz4, hB4⟩ := box wr #[.int .i64 y.id, .string y.file, .int .i64 y.mom, .int .i64 y.zone, .slice y.wa y.wn y.wc, .int .i64 y.W, .int .i64 y.H, .int .i64 y.turn, .int .i64 y.stars, .slice y.ta y.tn y.tc, .string y.cap, .slice y.pa y.pn y.pc, .bool y.hid] 26
      have HW4 := Lib.hid hW4
      have hB04 := below_up hB hB4
      have hsz4 := hB04.size
      have HOWN4 := Lib.hid (own_keepH hown hB4)
      clear hW4 hown hL hz4
      obtain ⟨m0, m1, m2, m3, m4, m5, m6, m7, m8, m9, m10, m11, m12⟩ := hP.photo
      go_upto_region 5 with fail
      rw [HW4.out]
      clear q0 q1 q2 q3 q4 q5 q6 q7 q8 q9 q10 q11 q12
      go_wp2_with (at_builtin; refine wpList_append_own2 _ rfl _ _ 24 rfl w.heap.size 3 i0 (.int .i64 0) 1 8 Try.underlying24 HI0.out HI1.out HI2.out HI3.out rfl (by decide) _ _ _ rfl (HOWN4.out.alloc _) ⟨W4.heap.size, 0, none⟩ 1 1 [.int .i64 y.id] rfl (by decide) rfl (cell_one_new _ _ _) (by simp [Value.oneCell']) (by unfold maxLen; omega) (by omega) (by simp; omega) ?_; intro g8 cap8 w8 hown8 hgrow8 hnew8)
      have HOWN8 := Lib.hid hown8
      have HB8 := Lib.hid ((below_allocs hB04 (.cells #[.int .i64 y.id] 3)).grown hgrow8 (by simp; omega) (fun k e => (HOWN4.out.lt k e).1))
      clear hown8 hgrow8 hnew8
      go_roundg (n - (j + 1))
      case rel => exact ⟨j + 1, by omega, rfl, by go_num, by rw [HY.out, List.map_append]; exact HOWN8.out, HB8.out⟩
      case measure => omega
    · obtain rfl : j = n := by omega
      have hll := Fd.idsL_len x j
      generalize Fd.idsL x j = L at *
      rcases hown.2 with ⟨rfl, h0⟩ | ⟨g, cap, cur, rfl, hg, hcell, hk, hm, _⟩
      · subst h0
        obtain rfl := List.eq_nil_of_length_eq_zero hll
        clear hown hll
        go_wp2_with fail
        go_ret
        exact ⟨none, 0, rfl, RowL.nil _ _, hB⟩
      · have hm2 : cap ≤ 9223372036854775807 := hm
        have HR := Lib.hid (RowL.of_own hown)
        have HLL := Lib.hid hll
        clear hown hcell hm hll
        go_wp2_with fail
        go_ret
        exact ⟨_, _, by rw [HLL.out]; rfl, HR.out, hB⟩
end Go.Proofs.Ytipmegkmkbbklaa
namespace Go.Proofs.Ytipmegkmkbbklaa
open Go.RowKit Go.Sort Go.Shelf
set_option linter.unusedVariables false
namespace Fd
theorem scan_all {bad : Nat → Int} {n : Nat} : ∀ i, scan bad i n = 0 → ∀ k, i ≤ k → k < i + n → bad k = 0 := by
  induction n with
  | zero => intro i _ k h1 h2; omega
  | succ n ih =>
    intro i h k h1 h2
    by_cases hb : bad i = 0
    · rw [scan_ok hb] at h
      by_cases e : k = i
      · subst e; exact hb
      · exact ih (i + 1) h k (by omega) (by omega)
    · rw [scan_bad hb] at h; exact absurd h hb
theorem lerr_few {x : Nat → Ph} {n : Nat} (h : lerr x n = 0) : n ≤ 1000 := by
  unfold lerr at h; split at h
  · cases h
  · omega
theorem lerr_scan {x : Nat → Ph} {n : Nat} (h : lerr x n = 0) : scan (lbad x) 0 n = 0 := by
  unfold lerr at h; split at h
  · cases h
  · exact h
theorem lerr_each {x : Nat → Ph} {n : Nat} (h : lerr x n = 0) (i : Nat) (hi : i < n) : (x i).err = 0 := by
  have := scan_all 0 (lerr_scan h) i (by omega) (by omega)
  by_cases g : (x i).err = 0
  · exact g
  · rw [lbad_err rfl g] at this; exact absurd this g
theorem lerr_rise {x : Nat → Ph} {n : Nat} (h : lerr x n = 0) (i : Nat) (hi : i + 1 < n) : (x i).id < (x (i + 1)).id := by
  have := scan_all 0 (lerr_scan h) (i + 1) (by omega) (by omega)
  have he := lerr_each h (i + 1) hi
  by_cases g : (x (i + 1)).id ≤ (x (i + 1 - 1)).id
  · rw [lbad_ord he (by omega) g] at this; cases this
  · simpa using g
end Fd
/-- The error of Holds and Find. -/
def Hd.err (e : Int) (c : Cnd) : Int := if e = 0 then c.err else e
theorem Hd.err_no {e : Int} {c : Cnd} (h : e ≠ 0) : Hd.err e c = e := by unfold Hd.err; rw [if_neg h]
theorem Hd.err_yes {e : Int} {c : Cnd} (h : e = 0) : Hd.err e c = c.err := by unfold Hd.err; rw [if_pos h]
theorem Hd.err_0 {e : Int} {c : Cnd} (h : Hd.err e c = 0) : e = 0 ∧ c.err = 0 := by
  unfold Hd.err at h; split at h
  · exact ⟨‹_›, h⟩
  · exact absurd h ‹_›
set_option maxRecDepth 100000 in
set_option maxHeartbeats 4000000 in
theorem holds_err (p : Ph) (c : Cnd) (hF : p.Fits) (hG : c.Fits) (w : World) (hI : p.In w) (hc : c.In w) (q : Int) (hq : Hd.err p.err c = q) (hne : q ≠ 0) :
    Calls Try.prog 18 #[.agg #[.int .i64 p.id, .string p.file, .int .i64 p.mom, .int .i64 p.zone, .slice p.wa p.wn p.wc, .int .i64 p.W, .int .i64 p.H, .int .i64 p.turn, .int .i64 p.stars, .slice p.ta p.tn p.tc, .string p.cap, .slice p.pa p.pn p.pc, .bool p.hid], .agg #[.int .i64 c.op, .slice c.ka c.kn c.kc, .string c.text, .int .i64 c.low, .int .i64 c.high, .slice c.aa c.an c.ac]] w fun e w' => e = .returned (.tuple #[.bool false, .int .i64 q]) ∧ Below w.heap.size w w' := by
  have HE := Lib.hid hq
  obtain ⟨W1, hW1, hP, hz1, hB1⟩ := box w #[.int .i64 p.id, .string p.file, .int .i64 p.mom, .int .i64 p.zone, .slice p.wa p.wn p.wc, .int .i64 p.W, .int .i64 p.H, .int .i64 p.turn, .int .i64 p.stars, .slice p.ta p.tn p.tc, .string p.cap, .slice p.pa p.pn p.pc, .bool p.hid] 26
  obtain ⟨W2, hW2, hC, hz2, hB2⟩ := box W1 #[.int .i64 c.op, .slice c.ka c.kn c.kc, .string c.text, .int .i64 c.low, .int .i64 c.high, .slice c.aa c.an c.ac] 53
  have HW1 := Lib.hid hW1; have HW2 := Lib.hid hW2
  have hP := hP.keep hB2
  rw [hz1] at hC
  have hB := below_up hB1 hB2
  obtain ⟨q0, q1, q2, q3, q4, q5, q6, q7, q8, q9, q10, q11, q12⟩ := hP.photo
  obtain ⟨l0, l1, l2, l3, l4, l5⟩ := hC.six
  clear hW1 hW2 hz1 hz2
  have HC1 := Lib.hid (checkPhoto_is p W2 (hI.keep hB) hF)
  have HC2 := Lib.hid (fun W (hb : Below w.heap.size w W) => checkCond_is c W (Cnd.In.keep hb hc) hG)
  have hne1 : (q != 0) = true := by simpa using hne
  clear hI hc hF hG hq
  by_cases h0 : p.err = 0
  · have he : c.err = q := by rw [← HE.out]; exact (Hd.err_yes h0).symm
    rw [h0] at HC1
    rw [he] at HC2
    clear h0 he
    go_enter Try.func18, Try.ntmps18
    go_wp2_with fail
    rw [HW1.out, HW2.out]
    go_wp2_with (go_at_call 26; (with_reducible refine HC1.out.mono ?_); rintro e w4 ⟨rfl, hB4⟩; have hB4w := below_up hB hB4; obtain ⟨l0, l1, l2, l3, l4, l5⟩ := (hC.keep hB4).six)
    go_wp2_with (go_at_call 56; (with_reducible refine (HC2.out _ hB4w).mono ?_); rintro e w5 ⟨rfl, hB5⟩)
    go_ret2
    exact ⟨rfl, below_up hB4w hB5⟩
  · have he : p.err = q := by rw [← HE.out]; exact (Hd.err_no h0).symm
    rw [he] at HC1
    clear h0 he
    go_enter Try.func18, Try.ntmps18
    go_wp2_with fail
    rw [HW1.out, HW2.out]
    go_wp2_with (go_at_call 26; (with_reducible refine HC1.out.mono ?_); rintro e w4 ⟨rfl, hB4⟩)
    go_ret2
    exact ⟨rfl, below_up hB hB4⟩
set_option maxRecDepth 100000 in
set_option maxHeartbeats 4000000 in
theorem holds_ok (p : Ph) (c : Cnd) (hF : p.Fits) (hG : c.Fits) (w : World) (hI : p.In w) (hc : c.In w) (hmx : MxL w) (hp0 : p.err = 0) (hc0 : c.err = 0) :
    Calls Try.prog 18 #[.agg #[.int .i64 p.id, .string p.file, .int .i64 p.mom, .int .i64 p.zone, .slice p.wa p.wn p.wc, .int .i64 p.W, .int .i64 p.H, .int .i64 p.turn, .int .i64 p.stars, .slice p.ta p.tn p.tc, .string p.cap, .slice p.pa p.pn p.pc, .bool p.hid], .agg #[.int .i64 c.op, .slice c.ka c.kn c.kc, .string c.text, .int .i64 c.low, .int .i64 c.high, .slice c.aa c.an c.ac]] w fun e w' => e = .returned (.tuple #[.bool (c.holds p), .int .i64 0]) ∧ Below w.heap.size w w' := by
  obtain ⟨W1, hW1, hP, hz1, hB1⟩ := box w #[.int .i64 p.id, .string p.file, .int .i64 p.mom, .int .i64 p.zone, .slice p.wa p.wn p.wc, .int .i64 p.W, .int .i64 p.H, .int .i64 p.turn, .int .i64 p.stars, .slice p.ta p.tn p.tc, .string p.cap, .slice p.pa p.pn p.pc, .bool p.hid] 26
  obtain ⟨W2, hW2, hC, hz2, hB2⟩ := box W1 #[.int .i64 c.op, .slice c.ka c.kn c.kc, .string c.text, .int .i64 c.low, .int .i64 c.high, .slice c.aa c.an c.ac] 53
  have HW1 := Lib.hid hW1; have HW2 := Lib.hid hW2
  have hP := hP.keep hB2
  rw [hz1] at hC
  have hB := below_up hB1 hB2
  obtain ⟨q0, q1, q2, q3, q4, q5, q6, q7, q8, q9, q10, q11, q12⟩ := hP.photo
  obtain ⟨l0, l1, l2, l3, l4, l5⟩ := hC.six
  clear hW1 hW2 hz1 hz2
  have HC1 := Lib.hid (checkPhoto_is p W2 (hI.keep hB) hF)
  have HC2 := Lib.hid (fun W (hb : Below w.heap.size w W) => checkCond_is c W (Cnd.In.keep hb hc) hG)
  have HC3 := Lib.hid (fun W (hb : Below w.heap.size w W) => nodeOf_is w hmx c W hc hG (Cnd.good_of hc hc0) hb)
  have HR := Lib.hid (Ph.right_of hF hp0)
  have HI := Lib.hid hI
  have HH := Lib.hid (show (fun p => c.holds p) p = c.holds p from rfl)
  rw [hp0] at HC1
  rw [hc0] at HC2
  clear hI hc hF hG hp0 hc0
  go_enter Try.func18, Try.ntmps18
  go_wp2_with fail
  rw [HW1.out, HW2.out]
  go_wp2_with (go_at_call 26; (with_reducible refine HC1.out.mono ?_); rintro e w4 ⟨rfl, hB4⟩; have hB4w := below_up hB hB4; obtain ⟨l0, l1, l2, l3, l4, l5⟩ := (hC.keep hB4).six)
  go_wp2_with (go_at_call 56; (with_reducible refine (HC2.out _ hB4w).mono ?_); rintro e w5 ⟨rfl, hB5⟩)
  have hB45 := below_up hB4 hB5
  have hB5w := (below_up hB4w hB5).drew
  have hCd := ((hC.keep hB45).drew); have hPd := ((hP.keep hB45).drew)
  clear q0 q1 q2 q3 q4 q5 q6 q7 q8 q9 q10 q11 q12 l0 l1 l2 l3 l4 l5
  obtain ⟨q0, q1, q2, q3, q4, q5, q6, q7, q8, q9, q10, q11, q12⟩ := hPd.photo
  obtain ⟨l0, l1, l2, l3, l4, l5⟩ := hCd.six
  go_region_held3 (fun w' => w'.cell? ⟨w.heap.size, 0, none⟩ = some (.int .i64 p.id) ∧ w'.cell? ⟨w.heap.size, 1, none⟩ = some (.string p.file) ∧ w'.cell? ⟨w.heap.size, 2, none⟩ = some (.int .i64 p.mom) ∧ w'.cell? ⟨w.heap.size, 3, none⟩ = some (.int .i64 p.zone) ∧ w'.cell? ⟨w.heap.size, 4, none⟩ = some (.slice p.wa p.wn p.wc) ∧ w'.cell? ⟨w.heap.size, 5, none⟩ = some (.int .i64 p.W) ∧ w'.cell? ⟨w.heap.size, 6, none⟩ = some (.int .i64 p.H) ∧ w'.cell? ⟨w.heap.size, 7, none⟩ = some (.int .i64 p.turn) ∧ w'.cell? ⟨w.heap.size, 8, none⟩ = some (.int .i64 p.stars) ∧ w'.cell? ⟨w.heap.size, 9, none⟩ = some (.slice p.ta p.tn p.tc) ∧ w'.cell? ⟨w.heap.size, 10, none⟩ = some (.string p.cap) ∧ w'.cell? ⟨w.heap.size, 11, none⟩ = some (.slice p.pa p.pn p.pc) ∧ w'.cell? ⟨w.heap.size, 12, none⟩ = some (.bool p.hid) ∧ w'.cell? ⟨w.heap.size + 1, 0, none⟩ = some (.int .i64 c.op) ∧ w'.cell? ⟨w.heap.size + 1, 1, none⟩ = some (.slice c.ka c.kn c.kc) ∧ w'.cell? ⟨w.heap.size + 1, 2, none⟩ = some (.string c.text) ∧ w'.cell? ⟨w.heap.size + 1, 3, none⟩ = some (.int .i64 c.low) ∧ w'.cell? ⟨w.heap.size + 1, 4, none⟩ = some (.int .i64 c.high) ∧ w'.cell? ⟨w.heap.size + 1, 5, none⟩ = some (.slice c.aa c.an c.ac))
    (first
      | with_reducible exact ⟨q0, q1, q2, q3, q4, q5, q6, q7, q8, q9, q10, q11, q12, l0, l1, l2, l3, l4, l5⟩)
    (first
      | (go_at_call 57; (with_reducible refine (HC3.out _ hB5w).mono ?_); rintro e w7 ⟨v7, rfl, hN7, hB7⟩; obtain ⟨q0, q1, q2, q3, q4, q5, q6, q7, q8, q9, q10, q11, q12⟩ := (hPd.keep hB7).photo; obtain ⟨l0, l1, l2, l3, l4, l5⟩ := (hCd.keep hB7).six; obtain ⟨T7, u7, g7, rfl, hn1, hn2, eg, hcall⟩ := hN7; have HCALL := Lib.hid hcall; clear hcall; have hB7w := below_up hB5w hB7)
      | (go_at_fn g7; (with_reducible refine (HCALL.out _ p (fun _ _ => rfl) (HI.out.keep hB7w) HR.out).mono ?_); rintro e w8 ⟨rfl, hB8⟩; obtain ⟨q0, q1, q2, q3, q4, q5, q6, q7, q8, q9, q10, q11, q12⟩ := (hPd.keep (below_up hB7 hB8)).photo; obtain ⟨l0, l1, l2, l3, l4, l5⟩ := (hCd.keep (below_up hB7 hB8)).six))
  go_wp2_with fail
  go_ret2
  exact ⟨rfl, below_up hB7w hB8⟩
end Go.Proofs.Ytipmegkmkbbklaa
namespace Go.Proofs.Ytipmegkmkbbklaa
open Go.RowKit Go.Sort Go.Shelf
set_option linter.unusedVariables false
set_option maxRecDepth 100000 in
set_option maxHeartbeats 4000000 in
theorem find_err (a : Option Addr) (n ca : Nat) (x : Nat → Ph) (c : Cnd) (w : World) (hx : Phs w a n x) (hF : ∀ i, i < n → (x i).Fits) (hn : n ≤ 9223372036854775807) (hG : c.Fits) (hc : c.In w) (q : Int) (hq : Hd.err (Fd.lerr x n) c = q) (hne : q ≠ 0) :
    Calls Try.prog 19 #[.slice a n ca, .agg #[.int .i64 c.op, .slice c.ka c.kn c.kc, .string c.text, .int .i64 c.low, .int .i64 c.high, .slice c.aa c.an c.ac]] w fun e w' => e = .returned (.tuple #[.slice none 0 0, .int .i64 q]) ∧ Below w.heap.size w w' := by
  have HE := Lib.hid hq
  obtain ⟨W1, hW1, hC, hz1, hB⟩ := box w #[.int .i64 c.op, .slice c.ka c.kn c.kc, .string c.text, .int .i64 c.low, .int .i64 c.high, .slice c.aa c.an c.ac] 53
  have HW1 := Lib.hid hW1
  obtain ⟨l0, l1, l2, l3, l4, l5⟩ := hC.six
  clear hW1 hz1
  have HC1 := Lib.hid (check_is a n ca x W1 (hx.keep hB) hF hn)
  have HC2 := Lib.hid (fun W (hb : Below w.heap.size w W) => checkCond_is c W (Cnd.In.keep hb hc) hG)
  have hne1 : (q != 0) = true := by simpa using hne
  clear hx hc hF hG hq
  by_cases h0 : Fd.lerr x n = 0
  · have he : c.err = q := by rw [← HE.out]; exact (Hd.err_yes h0).symm
    rw [h0] at HC1
    rw [he] at HC2
    clear h0 he
    go_enter Try.func19, Try.ntmps19
    go_wp2_with fail
    rw [HW1.out]
    go_wp2_with (go_at_call 40; (with_reducible refine HC1.out.mono ?_); rintro e w4 ⟨rfl, hB4⟩; have hB4w := below_up hB hB4; obtain ⟨l0, l1, l2, l3, l4, l5⟩ := (hC.keep hB4).six)
    go_wp2_with (go_at_call 56; (with_reducible refine (HC2.out _ hB4w).mono ?_); rintro e w5 ⟨rfl, hB5⟩)
    go_ret2
    exact ⟨rfl, below_up hB4w hB5⟩
  · have he : Fd.lerr x n = q := by rw [← HE.out]; exact (Hd.err_no h0).symm
    rw [he] at HC1
    clear h0 he
    go_enter Try.func19, Try.ntmps19
    go_wp2_with fail
    rw [HW1.out]
    go_wp2_with (go_at_call 40; (with_reducible refine HC1.out.mono ?_); rintro e w4 ⟨rfl, hB4⟩)
    go_ret2
    exact ⟨rfl, below_up hB hB4⟩
/-- What Find returns. -/
def FindPost (w : World) (xs : List Int) (e : Ending) (w' : World) : Prop :=
  ∃ a ca, e = .returned (.tuple #[.slice a xs.length ca, .int .i64 0]) ∧ RowL w' a xs ∧ Below w.heap.size w w'
set_option maxRecDepth 100000 in
set_option maxHeartbeats 4000000 in
theorem find_ok (a : Option Addr) (n ca : Nat) (x : Nat → Ph) (c : Cnd) (w : World) (hx : Phs w a n x) (hF : ∀ i, i < n → (x i).Fits) (hn : n ≤ 9223372036854775807) (hG : c.Fits) (hc : c.In w) (hmx : MxL w) (hl0 : Fd.lerr x n = 0) (hc0 : c.err = 0) :
    Calls Try.prog 19 #[.slice a n ca, .agg #[.int .i64 c.op, .slice c.ka c.kn c.kc, .string c.text, .int .i64 c.low, .int .i64 c.high, .slice c.aa c.an c.ac]] w (FindPost w (Fd.idsL (fun i => (Fd.sel (fun p => c.holds p) x n)[i]?.getD Ph.zero) (Fd.sel (fun p => c.holds p) x n).length)) := by
  have hfew := Fd.lerr_few hl0
  have hle := Fd.sel_le (fun p => c.holds p) x n
  obtain ⟨W1, hW1, hC, hz1, hB⟩ := box w #[.int .i64 c.op, .slice c.ka c.kn c.kc, .string c.text, .int .i64 c.low, .int .i64 c.high, .slice c.aa c.an c.ac] 53
  have HW1 := Lib.hid hW1
  obtain ⟨l0, l1, l2, l3, l4, l5⟩ := hC.six
  clear hW1 hz1
  have HC1 := Lib.hid (check_is a n ca x W1 (hx.keep hB) hF hn)
  have HC2 := Lib.hid (fun W (hb : Below w.heap.size w W) => checkCond_is c W (Cnd.In.keep hb hc) hG)
  have HC3 := Lib.hid (fun W (hb : Below w.heap.size w W) => nodeOf_is w hmx c W hc hG (Cnd.good_of hc hc0) hb)
  have HR := Lib.hid (fun i (hi : i < n) => Ph.right_of (hF i hi) (Fd.lerr_each hl0 i hi))
  have HX := Lib.hid hx
  have hsw := hB.size
  rw [hl0] at HC1
  rw [hc0] at HC2
  have HH := Lib.hid (fun (v : Value) (D : Nat → Prop) W (hb : Below w.heap.size w W) (hN : NodeIs (fun p => c.holds p) D W v) (hD : ∀ b, D b → b < W.heap.size) => holding_is (fun p => c.holds p) D v a n ca x W (hx.keep hb) HR.out hN hD hfew)
  clear hx hc hF hG hl0 hc0
  generalize hS : Fd.sel (fun p => c.holds p) x n = S at *
  clear hS
  go_enter Try.func19, Try.ntmps19
  go_wp2_with fail
  rw [HW1.out]
  go_wp2_with (go_at_call 40; (with_reducible refine HC1.out.mono ?_); rintro e w4 ⟨rfl, hB4⟩; have hB4w := below_up hB hB4; obtain ⟨l0, l1, l2, l3, l4, l5⟩ := (hC.keep hB4).six)
  go_wp2_with (first
    | (go_at_call 56; (with_reducible refine (HC2.out _ hB4w).mono ?_); rintro e w5 ⟨rfl, hB5⟩; have hB5w := below_up hB4w hB5; obtain ⟨l0, l1, l2, l3, l4, l5⟩ := (hC.keep (below_up hB4 hB5)).six)
    | (go_at_call 57; (with_reducible refine (HC3.out _ hB5w).mono ?_); rintro e w7 ⟨v7, rfl, hN7, hB7⟩; have hB7w := below_up hB5w hB7)
    | (go_at_call 59; (with_reducible refine (HH.out _ _ _ hB7w hN7 (fun b hb => Dm.lt hB5w.size hB7.size hb)).mono ?_); rintro e w8 ⟨a8, c8, rfl, hk8, hm8, hS8, hB8⟩)
    | (go_at_call 58; (with_reducible refine (idsF_is a8 _ c8 _ _ hS8 (by omega)).mono ?_); rintro e w9 ⟨a9, c9, rfl, hr9, hB9⟩))
  go_ret2
  exact ⟨a9, c9, rfl, hr9, below_up hB7w (below_up hB8 hB9)⟩
end Go.Proofs.Ytipmegkmkbbklaa
