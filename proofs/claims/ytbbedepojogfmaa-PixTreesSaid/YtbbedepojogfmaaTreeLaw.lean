/- The law PixTrees, walked. -/
import Derived.Laws.Small
import Derived.Lib.OwnKind
import Derived.Deep.RegionHeld3
import Derived.Deep.AppendLies
import Derived.Deep.DrawnRows
import Derived.Deep.RegionLaw
import Derived.Test.YtbbedepojogfmaaTreeNear
import Derived.Test.YtbbedepojogfmaaRow2
import Derived.Test.YtbbedepojogfmaaPixDiffer
namespace Go.Proofs.Ytbbedepojogfmaa
open Go.RowKit Go.Sort Go.Shelf Go.Maps
set_option linter.unusedVariables false
set_option maxHeartbeats 1000000 in
theorem idxL_is (a : Option Addr) (ca : Nat) (I : List Int) (x : Int) (w : World) (hr : RowL w a I) (hn : I.length ≤ 1000) :
    Calls Try.prog 35 #[.slice a I.length ca, .int .i64 x] w fun e w' => ((∃ k : Nat, I[k]? = some x ∧ e = .returned (.int .i64 k)) ∨ (x ∉ I ∧ e = .returned (.int .i64 (-1)))) ∧ w = w' := by
  have HR := Lib.hid hr; clear hr
  go_enter Try.func35, Try.ntmps35
  go_wp2_with fail
  go_loopg [8] I.length (fun gk i wr => ∃ j : Nat, j ≤ I.length ∧ gk = I.length - j ∧ i = .int .i64 j ∧ (∀ k, k < j → I[k]? ≠ some x) ∧ w = wr)
  case atStart => exact ⟨0, by omega, rfl, rfl, fun k hk => by omega, rfl⟩
  case round =>
    obtain ⟨j, hj, rfl, rfl, hall, rfl⟩ := hrel
    have HALL := Lib.hid hall; clear hall
    by_cases hlt : j < I.length
    · obtain ⟨b, off, rfl, hb, hcell⟩ := HR.out (by omega)
      obtain ⟨y, hy⟩ : ∃ y, I[j]? = some y := ⟨_, List.getElem?_eq_getElem hlt⟩
      have c0 : w.cell? ⟨b, off + j, none⟩ = some (.int .i64 y) := by have h := hcell j hlt; simp only [hy, Option.getD_some] at h; exact h
      clear hcell
      have HY := Lib.hid hy; clear hy
      by_cases he : x = y
      · have HE := Lib.hid he
        have he1 : (x == y) = true := by simpa using he
        clear he
        go_wp2_with fail
        go_ret
        exact ⟨.inl ⟨j, by rw [HY.out, HE.out], rfl⟩, rfl⟩
      · have HE := Lib.hid he
        have he1 : (x == y) = false := by simpa using he
        clear he
        go_wp2_with fail
        go_roundg (I.length - (j + 1))
        case rel => exact ⟨j + 1, by omega, rfl, by go_num, fun k hk => by (by_cases e : k = j); (subst e; rw [HY.out]; exact fun g => HE.out (Option.some.inj g).symm); exact HALL.out k (by omega), rfl⟩
        case measure => omega
    · obtain rfl : j = I.length := by omega
      have HNO : Hid (x ∉ I) := Lib.hid fun hm => by
        obtain ⟨k, hk⟩ := List.mem_iff_getElem?.1 hm
        exact HALL.out k (List.getElem?_eq_some_iff.1 hk).1 hk
      go_wp2_with fail
      go_ret
      exact ⟨.inr ⟨HNO.out, rfl⟩, rfl⟩
theorem Blk.four {w : World} {b : Nat} {c0 c1 c2 c3 : Value} {t : TypeId} (h : Blk w b #[c0, c1, c2, c3] t) :
    w.cell? ⟨b, 0, none⟩ = some c0 ∧ w.cell? ⟨b, 1, none⟩ = some c1 ∧ w.cell? ⟨b, 2, none⟩ = some c2 ∧ w.cell? ⟨b, 3, none⟩ = some c3 :=
  ⟨by rw [h.cell]; rfl, by rw [h.cell]; rfl, by rw [h.cell]; rfl, by rw [h.cell]; rfl⟩
/-- A slice of deeds. -/
def Row4 (w : World) (a : Option Addr) (len : Nat) (wh id mo hs : Nat → Int) : Prop :=
  0 < len → ∃ b off, a = some ⟨b, off, none⟩ ∧ b < w.heap.size ∧ ∀ i, i < len → w.cell? ⟨b, off + i * 4, none⟩ = some (.int .i64 (wh i)) ∧ w.cell? ⟨b, off + i * 4 + 1, none⟩ = some (.int .i64 (id i)) ∧ w.cell? ⟨b, off + i * 4 + 2, none⟩ = some (.int .i64 (mo i)) ∧ w.cell? ⟨b, off + i * 4 + 3, none⟩ = some (.int .u64 (hs i))
theorem Row4.keep {w w' : World} {a : Option Addr} {len : Nat} {f1 f2 f3 f4 : Nat → Int} (h : Row4 w a len f1 f2 f3 f4) (hb : Below w.heap.size w w') : Row4 w' a len f1 f2 f3 f4 := by
  intro hl
  obtain ⟨b, off, rfl, hlt, hc⟩ := h hl
  refine ⟨b, off, rfl, Nat.lt_of_lt_of_le hlt hb.size, fun i hi => ?_⟩
  obtain ⟨c0, c1, c2, c3⟩ := hc i hi
  exact ⟨(hb.cell (p := ⟨b, off + i * 4, none⟩) hlt).trans c0, (hb.cell (p := ⟨b, off + i * 4 + 1, none⟩) hlt).trans c1, (hb.cell (p := ⟨b, off + i * 4 + 2, none⟩) hlt).trans c2, (hb.cell (p := ⟨b, off + i * 4 + 3, none⟩) hlt).trans c3⟩
/-- What stands between two deeds. -/
structure Trs (w0 wr : World) (p B j : Nat) (I Hs : List Int) (v4 v5 : Value) : Prop where
  len : I.length ≤ j
  ids : wr.ownsRow (p + 1) 3 1 v4 I.length (I.map (Value.int .i64))
  hss : wr.ownsRow (p + 1) 49 1 v5 Hs.length (Hs.map (Value.int .u64))
  tree : TreeW wr p B j I Hs
  bel : Below w0.heap.size w0 wr
  hp : w0.heap.size ≤ B ∧ B ≤ p ∧ p + 1 ≤ wr.heap.size
theorem Trs.alloc {w0 wr : World} {p B j : Nat} {I Hs : List Int} {v4 v5 : Value} (h : Trs w0 wr p B j I Hs v4 v5) (o : Obj) : Trs w0 (wr.alloc o) p B j I Hs v4 v5 :=
  ⟨h.len, h.ids.alloc o, h.hss.alloc o, h.tree.keep (World.grownBy_alloc wr o none) (by simp) (by simp), h.bel.alloc h.bel.size o, ⟨h.hp.1, h.hp.2.1, by have := h.hp.2.2; simp; omega⟩⟩
theorem Trs.keep {w0 wr wr' : World} {p B j : Nat} {I Hs : List Int} {v4 v5 : Value} (h : Trs w0 wr p B j I Hs v4 v5) (hb : Below wr.heap.size wr wr') : Trs w0 wr' p B j I Hs v4 v5 := by
  have hg := below_grown0 hb (Nat.le_refl _)
  exact ⟨h.len, h.ids.kept hg (by cases hv : v4.ownBlock; exact .inl rfl; exact .inr (by simp)), h.hss.kept hg (by cases hv : v5.ownBlock; exact .inl rfl; exact .inr (by simp)), h.tree.keep hg (by simp) (by simp), h.bel.trans (hb.mono h.bel.size), ⟨h.hp.1, h.hp.2.1, Nat.le_trans h.hp.2.2 hb.size⟩⟩
theorem TreeW.more {w : World} {p B n m : Nat} {I Hs : List Int} (h : TreeW w p B n I Hs) (hn : n ≤ m) : TreeW w p B m I Hs := by
  obtain ⟨D, hD, hT⟩ := h.map
  exact ⟨h.blk, D, hD.mono hn, hT⟩
theorem Trs.more {w0 wr : World} {p B j : Nat} {I Hs : List Int} {v4 v5 : Value} (h : Trs w0 wr p B j I Hs v4 v5) : Trs w0 wr p B (j + 1) I Hs v4 v5 :=
  ⟨by have := h.len; omega, h.ids, h.hss, h.tree.more (by omega), h.bel, h.hp⟩
theorem idx_no {a : Option Addr} {ca : Nat} {I : List Int} {x : Int} {w : World} (hr : RowL w a I) (hn : I.length ≤ 1000) (hx : x ∉ I) :
    Calls Try.prog 35 #[.slice a I.length ca, .int .i64 x] w fun e w' => e = .returned (.int .i64 (-1)) ∧ w = w' := by
  refine (idxL_is a ca I x w hr hn).mono ?_
  rintro e w' ⟨⟨k, hk, rfl⟩ | ⟨_, rfl⟩, rfl⟩
  · exact absurd (List.mem_of_getElem? hk) hx
  · exact ⟨rfl, rfl⟩
theorem idx_at {a : Option Addr} {ca : Nat} {I : List Int} {x : Int} {w : World} (hr : RowL w a I) (hn : I.length ≤ 1000) (hnd : I.Nodup) (k : Nat) (hk : I[k]? = some x) :
    Calls Try.prog 35 #[.slice a I.length ca, .int .i64 x] w fun e w' => e = .returned (.int .i64 (k : Nat)) ∧ w = w' := by
  refine (idxL_is a ca I x w hr hn).mono ?_
  rintro e w' ⟨⟨l, hl, rfl⟩ | ⟨hx, rfl⟩, rfl⟩
  · have : l = k := (List.getElem?_inj (List.getElem?_eq_some_iff.1 hl).1 hnd).1 (hl.trans hk.symm)
    subst this; exact ⟨rfl, rfl⟩
  · exact absurd (List.mem_of_getElem? hk) hx
theorem idx_any {a : Option Addr} {ca : Nat} {I : List Int} {x : Int} {w : World} (hr : RowL w a I) (hn : I.length ≤ 1000) :
    Calls Try.prog 35 #[.slice a I.length ca, .int .i64 x] w fun e w' => (∃ r : Int, e = .returned (.int .i64 r)) ∧ w = w' := by
  refine (idxL_is a ca I x w hr hn).mono ?_
  rintro e w' ⟨⟨l, hl, rfl⟩ | ⟨hx, rfl⟩, rfl⟩
  · exact ⟨⟨_, rfl⟩, rfl⟩
  · exact ⟨⟨_, rfl⟩, rfl⟩
theorem sort_zero (p : Option Addr) (cap : Nat) (w : World) : Calls Try.prog 42 #[.slice p 0 cap] w fun e w' => e = .returned (.tuple #[]) ∧ w' = w := Go.Proofs.Any.slices_Sort_int_none sortLays p cap w
/-- slices.Sort of an owned row, empty or not. -/
theorem sort_row (a : Option Addr) (ca : Nat) (zs : List Int) (base : Nat) (w : World) (ho : w.ownsRow base 3 1 (.slice a zs.length ca) zs.length (zs.map (Value.int .i64))) (hn : zs.length ≤ 1000) (hb : base ≤ w.heap.size) :
    Calls Try.prog 42 #[.slice a zs.length ca] w fun e w' => ∃ ys : List Int, e = .returned (.tuple #[]) ∧ ys.length = zs.length ∧ ys.Perm zs ∧ ys.Pairwise (· ≤ ·) ∧ RowL w' a ys ∧ Below base w w' := by
  rcases Nat.eq_zero_or_pos zs.length with h0 | h0
  · have hz : zs = [] := List.eq_nil_of_length_eq_zero h0
    subst hz
    refine (sort_zero a ca w).mono ?_
    rintro e w' ⟨rfl, rfl⟩
    exact ⟨[], rfl, rfl, List.Perm.refl _, List.Pairwise.nil, RowL.nil _ _, Below.refl _ _⟩
  · obtain ⟨g, rfl⟩ := row_some ho h0
    refine (sort_own g ca zs base w ho h0 (by omega)).mono ?_
    rintro e w' ⟨ys, rfl, hl, hp, hs, hO, hg⟩
    rw [← hl] at hO
    exact ⟨ys, rfl, hl, hp, hs, row_ints hO, row_below ho hg hb⟩
theorem delInts_k (w : World) (base g cap : Nat) (xs : List Int) (k : Nat) (hk : k < xs.length) (ho : w.ownsRow base 3 1 (.slice (some ⟨g, 0, none⟩) xs.length cap) xs.length (xs.map (Value.int .i64))) :
    Calls Try.prog 38 #[.slice (some ⟨g, 0, none⟩) xs.length cap, .int .i64 (k : Nat), .int .i64 ((k : Int) + 1)] w fun e w' => e = .returned (.slice (some ⟨g, 0, none⟩) (xs.length - 1) cap) ∧ w'.ownsRow base 3 1 (.slice (some ⟨g, 0, none⟩) (xs.length - 1) cap) (xs.length - 1) ((xs.eraseIdx k).map (Value.int .i64)) ∧ w.grownBy w' (some g) := by
  have h := delInts_is w base g cap xs k hk ho
  rwa [show ((k + 1 : Nat) : Int) = (k : Int) + 1 by omega] at h
theorem delHashes_k (w : World) (base g cap : Nat) (xs : List Int) (k : Nat) (hk : k < xs.length) (ho : w.ownsRow base 49 1 (.slice (some ⟨g, 0, none⟩) xs.length cap) xs.length (xs.map (Value.int .u64))) :
    Calls Try.prog 39 #[.slice (some ⟨g, 0, none⟩) xs.length cap, .int .i64 (k : Nat), .int .i64 ((k : Int) + 1)] w fun e w' => e = .returned (.slice (some ⟨g, 0, none⟩) (xs.length - 1) cap) ∧ w'.ownsRow base 49 1 (.slice (some ⟨g, 0, none⟩) (xs.length - 1) cap) (xs.length - 1) ((xs.eraseIdx k).map (Value.int .u64)) ∧ w.grownBy w' (some g) := by
  have h := delHashes_is w base g cap xs k hk ho
  rwa [show ((k + 1 : Nat) : Int) = (k : Int) + 1 by omega] at h
/-- The types of two rows tell their blocks apart. -/
theorem row_ne {w : World} {B B' : Nat} {e e' : TypeId} {k k' : Nat} {v u : Value} {n m : Nat} {xs ys : List Value} (h : w.ownsRow B e k v n xs) (g : w.ownsRow B' e' k' u m ys) (hne : e ≠ e') : u.ownBlock = none ∨ u.ownBlock ≠ v.ownBlock := by
  cases hu : u.ownBlock with
  | none => exact .inl rfl
  | some b =>
    right
    intro e2
    obtain ⟨c1, f1, h1⟩ := Go.Lib.ownsRow_kind g b hu
    obtain ⟨c2, f2, h2⟩ := Go.Lib.ownsRow_kind h b e2.symm
    rw [h1] at h2
    cases h2
    exact hne rfl
theorem own_of_heap {w w' : World} {B : Nat} {e : TypeId} {k : Nat} {v : Value} {n : Nat} {xs : List Value} (h : w.ownsRow B e k v n xs) (e1 : w'.heap = w.heap) : w'.ownsRow B e k v n xs := by
  unfold World.ownsRow at *; rw [e1]; exact h
theorem blk_of_heap {w w' : World} {b : Nat} {c : Array Value} {t : TypeId} (h : Blk w b c t) (e1 : w'.heap = w.heap) : Blk w' b c t := by
  unfold Blk at *; rw [e1]; exact h
theorem below_eq {B : Nat} {a b b' : World} (h : Below B a b) (h1 : b'.os = b.os) (h2 : b'.tape = b.tape) (h3 : b'.output = b.output) (h4 : b'.heap = b.heap) : Below B a b' :=
  ⟨h1.trans h.os, h2.trans h.tape, h3.trans h.output, by rw [h4]; exact h.size, fun k hk => by rw [h4]; exact h.block k hk⟩
theorem grow_below {B : Nat} {a w w' : World} {v : Value} (h : Below B a w) (hg : w.grownBy w' v.ownBlock) (hv : ∀ k, v.ownBlock = some k → B ≤ k) (hB : B ≤ a.heap.size) : Below B a w' :=
  h.trans ⟨hg.os, hg.tape, hg.output, hg.size, fun i hi => hg.block i (by have := h.size; omega) fun e => by have := hv i e.symm; omega⟩
theorem grow_below2 {B : Nat} {a w w' : World} {v : Value} (hg : w.grownBy w' v.ownBlock) (h : Below B a w) (hv : ∀ k, v.ownBlock = some k → B ≤ k) (hB : B ≤ a.heap.size) : Below B a w' := grow_below h hg hv hB
theorem kept_of {w w' : World} {row : Option Nat} (hg : w.grownBy w' row) {B : Nat} {e : TypeId} {k : Nat} {v : Value} {n : Nat} {xs : List Value} (h : w.ownsRow B e k v n xs) (hne : v.ownBlock = none ∨ v.ownBlock ≠ row) : w'.ownsRow B e k v n xs := h.kept hg hne
theorem grown_of {w w' : World} {row : Option Nat} (hg : w.grownBy w' row) {b : Nat} {c : Array Value} {t : TypeId} (h : Blk w b c t) (hne : some b ≠ row) : Blk w' b c t := h.grown hg hne
theorem TreeW.keepB {w w' : World} {p B n X : Nat} {I Hs : List Int} (h : TreeW w p B n I Hs) (hb : Below X w w') (hp : p < X) (hB : B < X) : TreeW w' p B n I Hs := by
  obtain ⟨D, ⟨es, clock, hm, r⟩, hT⟩ := h.map
  exact ⟨h.blk.of_block (hb.block p hp), D, ⟨es, clock, (hb.block B hB).trans hm, r⟩, hT⟩
theorem below_of_g {B : Nat} {a b : World} {p : Nat} (h : a.grownBy b (some p)) (hB : B ≤ a.heap.size) (hp : B ≤ p) : Below B a b :=
  ⟨h.os, h.tape, h.output, h.size, fun k hk => h.block k (by omega) (fun e => by cases e; omega)⟩
set_option maxRecDepth 100000 in
set_option maxHeartbeats 8000000 in
theorem pixTrees_walk (a : Addr) (n ca : Nat) (wh id mo hs : Nat → Int) (w : World) (hn : n ≤ 9223372036854775807) (hnc : n ≤ ca) (hca : ca ≤ 9223372036854775807) (hr : Row4 w (some a) n wh id mo hs)
    (hid : ∀ i, i < n → (Lit.int .i64 (id i)).wf = true) (hhs : ∀ i, i < n → (Lit.int .u64 (hs i)).wf = true) :
    Calls Try.prog 8 #[.slice (some a) n ca] w fun e w' => e = .returned (.bool true) ∧ Below w.heap.size w w' := by
  obtain ⟨N, hN, hNn, hN2⟩ : ∃ N : Nat, (if (200 : Int) < (n : Int) then (200 : Int) else (n : Int)) = (N : Int) ∧ N ≤ n ∧ N ≤ 200 := by
    by_cases h : 200 < n
    · exact ⟨200, by rw [if_pos (by omega)]; rfl, by omega, by omega⟩
    · exact ⟨n, by rw [if_neg (by omega)], by omega, by omega⟩
  have hNca : N ≤ ca := by omega
  have HR := Lib.hid hr; have HID := Lib.hid hid; have HHS := Lib.hid hhs
  clear hr hid hhs
  have HNT := Lib.hid (newTree_is w)
  go_enter Try.func8, Try.ntmps8
  go_wp2_with (go_at_call 34; refine HNT.out.mono ?_; rintro e w1 ⟨rfl, hT, hB⟩; have HT := Lib.hid hT; have HB := Lib.hid hB; clear hT hB)
  have hmin : min (n : Int) 200 = (N : Int) := by rw [← hN, Int.min_def]; split <;> split <;> omega
  have hmax : max (N : Int) 0 = (N : Int) := by omega
  simp only [hmin, hmax, Int.toNat_natCast]
  clear hmin hmax hN
  go_loopg [4, 5, 25] N (fun gk v4 v5 i wr => ∃ (j : Nat) (I Hs : List Int), j ≤ N ∧ gk = N - j ∧ i = .int .i64 j ∧ Trs w wr (w.heap.size + 1) w.heap.size j I Hs v4 v5)
  case atStart => exact ⟨0, [], [], by omega, rfl, rfl, ⟨Nat.le_refl _, World.ownsRow_nil _ _ _ _, World.ownsRow_nil _ _ _ _, HT.out, HB.out, ⟨Nat.le_refl _, by omega, by have := HT.out.blk.lt; omega⟩⟩⟩
  case round =>
    obtain ⟨j, I, Hs, hj, rfl, rfl, hS⟩ := hrel
    by_cases hlt : j < N
    · obtain ⟨b, off, ha, hb, hcell⟩ := HR.out.keep hS.bel (by omega)
      cases ha
      obtain ⟨c0, c1, c2, c3⟩ := hcell j (by omega)
      have hxw := HID.out j (by omega)
      have hhw := HHS.out j (by omega)
      clear hcell
      generalize wh j = wt at *
      generalize id j = x at *
      generalize mo j = m at *
      obtain ⟨h, hh, hhb⟩ := wf_nat hhw
      rw [hh] at c3 hhw
      clear hh
      have hI1 : I.length ≤ 1000 := by have := hS.len; omega
      have hS1 := hS.alloc (.cells #[.int .i64 wt, .int .i64 x, .int .i64 m, .int .u64 (h : Nat)] 64)
      obtain ⟨a4, ca4, rfl, -, -⟩ := row_slice hS1.ids
      obtain ⟨a5, ca5, rfl, -, -⟩ := row_slice hS1.hss
      have HLT4 := Lib.hid hS.ids.lt
      have HLT5 := Lib.hid hS.hss.lt
      have HRL := Lib.hid (row_ints hS1.ids)
      have HTS := Lib.hid hS1
      have HTW := Lib.hid hS1.tree
      obtain ⟨D, hD, hTr⟩ := hS1.tree.map
      have HD := Lib.hid hD; have HTR := Lib.hid hTr
      clear hS hS1 hD hTr
      by_cases hw0 : wt = 0
      · subst hw0
        by_cases hxr : 1 ≤ x ∧ x ≤ 1000000
        · by_cases hm : x ∈ I
          · obtain ⟨k, hk⟩ := List.mem_iff_getElem?.1 hm
            have HIX := Lib.hid (idx_at (ca := ca4) HRL.out hI1 HTR.out.nd k hk)
            have HAD := Lib.hid (addF_twice _ _ _ _ I Hs HTW.out x h hxr hm)
            obtain ⟨hx1, hx2⟩ := hxr
            have hx1' : ¬ x < 1 := by omega
            have hx2' : ¬ (1000000 : Int) < x := by omega
            clear hm hk hx1 hx2
            go_wp2_with (first
              | (go_at_call 35; (with_reducible refine HIX.out.mono ?_); rintro e w2 ⟨rfl, rfl⟩)
              | (go_at_call 36; (with_reducible refine HAD.out.mono ?_); rintro e w2 ⟨rfl, rfl⟩)
              | (go_at_call 43; refine (sizeF_is _ (w.heap.size + 1) w.heap.size j I Hs HTW.out).mono ?_; rintro e w9 ⟨rfl, rfl⟩))
            go_roundg (N - (j + 1))
            case rel => exact ⟨j + 1, I, Hs, by omega, rfl, by go_num, HTS.out.more⟩
            case measure => omega
          · have HIX := Lib.hid (idx_no (ca := ca4) HRL.out hI1 hm)
            have hwfh : (Lit.int .u64 (h : Nat)).wf = true := hhw
            have HAD := Lib.hid (addF_ok _ _ _ _ I Hs HTW.out x h hxr hm (by have := HTS.out.len; omega) (by have := HTS.out.len; omega) hwfh (by omega))
            have HBX := Lib.hid (Blk.new wr #[.int .i64 0, .int .i64 x, .int .i64 m, .int .u64 (h : Nat)] 64)
            obtain ⟨hx1, hx2⟩ := hxr
            have hx1' : ¬ x < 1 := by omega
            have hx2' : ¬ (1000000 : Int) < x := by omega
            have HP := Lib.hid HTS.out.hp
            have hbx : wr.heap.size ≠ w.heap.size := by have := HP.out.2.2; simp at this; have := HTS.out.bel.size; omega
            obtain ⟨i0, hi0, hz0, hz1, hz2⟩ := info_parts infoInt
            have HI0 := Lib.hid hi0; have HI1 := Lib.hid hz0; have HI2 := Lib.hid hz1; have HI3 := Lib.hid hz2
            obtain ⟨iu, hu0, hv0, hv1, hv2⟩ := info_parts infoU
            have HU0 := Lib.hid hu0; have HU1 := Lib.hid hv0; have HU2 := Lib.hid hv1; have HU3 := Lib.hid hv2
            clear hm hx1 hx2 hi0 hz0 hz1 hz2 hu0 hv0 hv1 hv2
            go_wp2_with (first
              | (go_at_call 35; (with_reducible refine HIX.out.mono ?_); rintro e w2 ⟨rfl, rfl⟩)
              | (go_at_call 36; (with_reducible refine HAD.out.mono ?_); rintro e w2 ⟨rfl, hT2, hG2⟩; obtain ⟨t0, t1, t2, t3⟩ := (HBX.out.grown hG2 (fun e => hbx (Option.some.inj e))).four; have HT2 := Lib.hid hT2; have HG2 := Lib.hid hG2; clear hT2 hG2))
            have HS2 : Hid (w.heap.size + 2 ≤ w2.heap.size) := Lib.hid (by have h1 := HP.out.2.2; have h2 := HG2.out.size; omega)
            have HV4 : Hid (∀ k, (Value.slice a4 I.length ca4).ownBlock = some k → w.heap.size + 2 ≤ k ∧ k < w2.heap.size) := Lib.hid fun k e => by have h1 := HTS.out.ids.lt k e; have h2 := HG2.out.size; omega
            have HV5 : Hid (∀ k, (Value.slice a5 Hs.length ca5).ownBlock = some k → w.heap.size + 2 ≤ k ∧ k < w2.heap.size) := Lib.hid fun k e => by have h1 := HTS.out.hss.lt k e; have h2 := HG2.out.size; omega
            have HIW : Hid (w2.ownsRow (w.heap.size + 2) 3 1 (.slice a4 I.length ca4) I.length (I.map (Value.int .i64))) := Lib.hid (HTS.out.ids.kept HG2.out (.inr fun e => by have := (HTS.out.ids.lt _ e).1; omega))
            have HHW : Hid (w2.ownsRow (w.heap.size + 2) 49 1 (.slice a5 Hs.length ca5) Hs.length (Hs.map (Value.int .u64))) := Lib.hid (HTS.out.hss.kept HG2.out (.inr fun e => by have := (HTS.out.hss.lt _ e).1; omega))
            have HNE2 := Lib.hid (row_ne HTS.out.ids HTS.out.hss (by decide))
            have HNE1 := Lib.hid (row_ne HTS.out.hss HTS.out.ids (by decide))
            have HL1c : Hid (Blk (w2.alloc (.cells #[.int .i64 x] 3)) w2.heap.size #[.int .i64 x] 3) := Lib.hid (Blk.new _ _ _)
            have HL2c : Hid (Blk (w2.alloc (.cells #[.int .u64 (h : Nat)] 49)) w2.heap.size #[.int .u64 (h : Nat)] 49) := Lib.hid (Blk.new _ _ _)
            have HL1a := Lib.hid (HL1c.out.alloc (.cells #[.int .u64 (h : Nat)] 49))
            have HL2a := Lib.hid (HL2c.out.alloc (.cells #[.int .i64 x] 3))
            have HL1b : Hid (Blk ((w2.alloc (.cells #[.int .u64 (h : Nat)] 49)).alloc (.cells #[.int .i64 x] 3)) (w2.heap.size + 1) #[.int .i64 x] 3) := Lib.hid (by have := Blk.new (w2.alloc (.cells #[.int .u64 (h : Nat)] 49)) #[.int .i64 x] 3; simpa using this)
            have HL2b : Hid (Blk ((w2.alloc (.cells #[.int .i64 x] 3)).alloc (.cells #[.int .u64 (h : Nat)] 49)) (w2.heap.size + 1) #[.int .u64 (h : Nat)] 49) := Lib.hid (by have := Blk.new (w2.alloc (.cells #[.int .i64 x] 3)) #[.int .u64 (h : Nat)] 49; simpa using this)
            have HN4 : Hid (∀ k, w2.heap.size ≤ k → some k ≠ (Value.slice a4 I.length ca4).ownBlock) := Lib.hid fun k hk e => by have := (HV4.out k e.symm).2; omega
            have HN5 : Hid (∀ k, w2.heap.size ≤ k → some k ≠ (Value.slice a5 Hs.length ca5).ownBlock) := Lib.hid fun k hk e => by have := (HV5.out k e.symm).2; omega
            have HM1 : Hid (I.length + 1 ≤ maxLen) := Lib.hid (by unfold maxLen; omega)
            have HM2 : Hid (Hs.length + 1 ≤ maxLen) := Lib.hid (by have := HTR.out.len; unfold maxLen; omega)
            have HY1 : Hid ((I.length + 1) * 8 ≤ 140737488355328) := Lib.hid (by omega)
            have HY2 : Hid ((Hs.length + 1) * 8 ≤ 140737488355328) := Lib.hid (by have := HTR.out.len; omega)
            have HBb := Lib.hid (Below.refl (w.heap.size + 2) w2)
            have hbx2 : wr.heap.size < w2.heap.size := by have h2 := HG2.out.size; simp at h2; omega
            have HXI : Hid (some wr.heap.size ≠ (Value.slice a4 I.length ca4).ownBlock) := Lib.hid fun e => by have := (HLT4.out _ e.symm).2; omega
            have HXH : Hid (some wr.heap.size ≠ (Value.slice a5 Hs.length ca5).ownBlock) := Lib.hid fun e => by have := (HLT5.out _ e.symm).2; omega
            clear hbx
            go_region_held3 (fun w' => w'.cell? ⟨wr.heap.size, 1, none⟩ = some (.int .i64 x) ∧ w'.cell? ⟨wr.heap.size, 3, none⟩ = some (.int .u64 (h : Nat)))
              (first
                | go_keep
                | (go_split_ands
                   refine ⟨?_, ?_⟩
                   · (first | (rw [hgrow5.cell_far _ (by first | (simp; omega) | (have qq := hB6.size; simp; omega)) HXI.out]; assumption) | (rw [hgrow6.cell_far _ (by first | (simp; omega) | (have qq := hB5.size; simp; omega)) HXH.out]; assumption))
                   · (first | (rw [hgrow5.cell_far _ (by first | (simp; omega) | (have qq := hB6.size; simp; omega)) HXI.out]; assumption) | (rw [hgrow6.cell_far _ (by first | (simp; omega) | (have qq := hB5.size; simp; omega)) HXH.out]; assumption))))
              (first
                | (refine step_append_lies _ (by rfl) _ _ _ (by rfl) (w.heap.size + 2) 3 i0 (.int .i64 0) 1 8 Try.underlying29 HI0.out HI1.out HI2.out HI3.out rfl (by decide) (.slice a4 I.length ca4) I.length (I.map (Value.int .i64)) (by rfl) (by first | exact own_of_heap hI6 rfl | exact own_of_heap (hI6.alloc (.cells #[.int .i64 x] 3)) rfl | exact own_of_heap (HIW.out.alloc (.cells #[.int .i64 x] 3)) rfl | exact own_of_heap ((HIW.out.alloc (.cells #[.int .i64 x] 3)).alloc (.cells #[.int .u64 (h : Nat)] 49)) rfl | exact own_of_heap ((HIW.out.alloc (.cells #[.int .u64 (h : Nat)] 49)).alloc (.cells #[.int .i64 x] 3)) rfl) _ 1 1 [.int .i64 x] (by rfl) (by rfl) (by first | exact World.news_of_block (cs := #[.int .i64 x]) (t := 3) (fr := (0, 0)) (blk_of_heap hQ6 rfl) | exact World.news_of_block (cs := #[.int .i64 x]) (t := 3) (fr := (0, 0)) (blk_of_heap HL1a.out rfl) | exact World.news_of_block (cs := #[.int .i64 x]) (t := 3) (fr := (0, 0)) (blk_of_heap HL1b.out rfl) | exact World.news_of_block (cs := #[.int .i64 x]) (t := 3) (fr := (0, 0)) (blk_of_heap HL1c.out rfl) | exact World.news_of_block (cs := #[.int .i64 x]) (t := 3) (fr := (0, 0)) (blk_of_heap (Blk.new w6 #[.int .i64 x] 3) rfl)) (by simp [Value.oneCell']) (by decide) HM1.out HY1.out (by first | exact Nat.le_trans HS2.out (below_eq hB6 rfl rfl rfl rfl).size | exact Nat.le_trans HS2.out (below_eq (hB6.alloc (Nat.le_trans HS2.out hB6.size) (.cells #[.int .i64 x] 3)) rfl rfl rfl rfl).size | exact Nat.le_trans HS2.out (below_eq (HBb.out.alloc HS2.out (.cells #[.int .i64 x] 3)) rfl rfl rfl rfl).size | exact Nat.le_trans HS2.out (below_eq ((HBb.out.alloc HS2.out (.cells #[.int .i64 x] 3)).alloc (by simp; have := HS2.out; omega) (.cells #[.int .u64 (h : Nat)] 49)) rfl rfl rfl rfl).size | exact Nat.le_trans HS2.out (below_eq ((HBb.out.alloc HS2.out (.cells #[.int .u64 (h : Nat)] 49)).alloc (by simp; have := HS2.out; omega) (.cells #[.int .i64 x] 3)) rfl rfl rfl rfl).size) _ rfl ?_; intro g5 cap5 w5 hown5 hgrow5 hat5 hlt5; have hB5 : Below (w.heap.size + 2) w2 w5 := (by first | exact grow_below2 hgrow5 (below_eq hB6 rfl rfl rfl rfl) (fun k e => (HV4.out k e).1) HS2.out | exact grow_below2 hgrow5 (below_eq (hB6.alloc (Nat.le_trans HS2.out hB6.size) (.cells #[.int .i64 x] 3)) rfl rfl rfl rfl) (fun k e => (HV4.out k e).1) HS2.out | exact grow_below2 hgrow5 (below_eq (HBb.out.alloc HS2.out (.cells #[.int .i64 x] 3)) rfl rfl rfl rfl) (fun k e => (HV4.out k e).1) HS2.out | exact grow_below2 hgrow5 (below_eq ((HBb.out.alloc HS2.out (.cells #[.int .i64 x] 3)).alloc (by simp; have := HS2.out; omega) (.cells #[.int .u64 (h : Nat)] 49)) rfl rfl rfl rfl) (fun k e => (HV4.out k e).1) HS2.out | exact grow_below2 hgrow5 (below_eq ((HBb.out.alloc HS2.out (.cells #[.int .u64 (h : Nat)] 49)).alloc (by simp; have := HS2.out; omega) (.cells #[.int .i64 x] 3)) rfl rfl rfl rfl) (fun k e => (HV4.out k e).1) HS2.out); (first | (have hFH : w5.ownsRow (w.heap.size + 2) 49 1 (.slice (some ⟨g6, 0, none⟩) (Hs.length + 1) cap6) (Hs.length + 1) (Hs.map (Value.int .u64) ++ [.int .u64 (h : Nat)]) := (by first | exact kept_of hgrow5 (own_of_heap hown6 rfl) (row_ne hI6 hown6 (by decide)) | exact kept_of hgrow5 (own_of_heap (hown6.alloc (.cells #[.int .i64 x] 3)) rfl) (row_ne hI6 hown6 (by decide)))) | (have hH5 : w5.ownsRow (w.heap.size + 2) 49 1 (.slice a5 Hs.length ca5) Hs.length (Hs.map (Value.int .u64)) := (by first | exact kept_of hgrow5 (own_of_heap (HHW.out.alloc (.cells #[.int .i64 x] 3)) rfl) HNE2.out | exact kept_of hgrow5 (own_of_heap ((HHW.out.alloc (.cells #[.int .i64 x] 3)).alloc (.cells #[.int .u64 (h : Nat)] 49)) rfl) HNE2.out | exact kept_of hgrow5 (own_of_heap ((HHW.out.alloc (.cells #[.int .u64 (h : Nat)] 49)).alloc (.cells #[.int .i64 x] 3)) rfl) HNE2.out))); (try (first | (have hQ5 : Blk w5 w2.heap.size #[.int .u64 (h : Nat)] 49 := (by exact grown_of hgrow5 (blk_of_heap HL2a.out rfl) (HN4.out _ (by omega)))) | (have hQ5 : Blk w5 (w2.heap.size + 1) #[.int .u64 (h : Nat)] 49 := (by exact grown_of hgrow5 (blk_of_heap HL2b.out rfl) (HN4.out _ (by omega)))))))
                | (refine step_append_lies _ (by rfl) _ _ _ (by rfl) (w.heap.size + 2) 49 iu (.int .u64 0) 1 8 Try.underlying50 HU0.out HU1.out HU2.out HU3.out rfl (by decide) (.slice a5 Hs.length ca5) Hs.length (Hs.map (Value.int .u64)) (by rfl) (by first | exact own_of_heap hH5 rfl | exact own_of_heap (hH5.alloc (.cells #[.int .u64 (h : Nat)] 49)) rfl | exact own_of_heap (HHW.out.alloc (.cells #[.int .u64 (h : Nat)] 49)) rfl | exact own_of_heap ((HHW.out.alloc (.cells #[.int .u64 (h : Nat)] 49)).alloc (.cells #[.int .i64 x] 3)) rfl | exact own_of_heap ((HHW.out.alloc (.cells #[.int .i64 x] 3)).alloc (.cells #[.int .u64 (h : Nat)] 49)) rfl) _ 1 1 [.int .u64 (h : Nat)] (by rfl) (by rfl) (by first | exact World.news_of_block (cs := #[.int .u64 (h : Nat)]) (t := 49) (fr := (0, 0)) (blk_of_heap hQ5 rfl) | exact World.news_of_block (cs := #[.int .u64 (h : Nat)]) (t := 49) (fr := (0, 0)) (blk_of_heap HL2a.out rfl) | exact World.news_of_block (cs := #[.int .u64 (h : Nat)]) (t := 49) (fr := (0, 0)) (blk_of_heap HL2b.out rfl) | exact World.news_of_block (cs := #[.int .u64 (h : Nat)]) (t := 49) (fr := (0, 0)) (blk_of_heap HL2c.out rfl) | exact World.news_of_block (cs := #[.int .u64 (h : Nat)]) (t := 49) (fr := (0, 0)) (blk_of_heap (Blk.new w5 #[.int .u64 (h : Nat)] 49) rfl)) (by simp [Value.oneCell']) (by decide) HM2.out HY2.out (by first | exact Nat.le_trans HS2.out (below_eq hB5 rfl rfl rfl rfl).size | exact Nat.le_trans HS2.out (below_eq (hB5.alloc (Nat.le_trans HS2.out hB5.size) (.cells #[.int .u64 (h : Nat)] 49)) rfl rfl rfl rfl).size | exact Nat.le_trans HS2.out (below_eq (HBb.out.alloc HS2.out (.cells #[.int .u64 (h : Nat)] 49)) rfl rfl rfl rfl).size | exact Nat.le_trans HS2.out (below_eq ((HBb.out.alloc HS2.out (.cells #[.int .u64 (h : Nat)] 49)).alloc (by simp; have := HS2.out; omega) (.cells #[.int .i64 x] 3)) rfl rfl rfl rfl).size | exact Nat.le_trans HS2.out (below_eq ((HBb.out.alloc HS2.out (.cells #[.int .i64 x] 3)).alloc (by simp; have := HS2.out; omega) (.cells #[.int .u64 (h : Nat)] 49)) rfl rfl rfl rfl).size) _ rfl ?_; intro g6 cap6 w6 hown6 hgrow6 hat6 hlt6; have hB6 : Below (w.heap.size + 2) w2 w6 := (by first | exact grow_below2 hgrow6 (below_eq hB5 rfl rfl rfl rfl) (fun k e => (HV5.out k e).1) HS2.out | exact grow_below2 hgrow6 (below_eq (hB5.alloc (Nat.le_trans HS2.out hB5.size) (.cells #[.int .u64 (h : Nat)] 49)) rfl rfl rfl rfl) (fun k e => (HV5.out k e).1) HS2.out | exact grow_below2 hgrow6 (below_eq (HBb.out.alloc HS2.out (.cells #[.int .u64 (h : Nat)] 49)) rfl rfl rfl rfl) (fun k e => (HV5.out k e).1) HS2.out | exact grow_below2 hgrow6 (below_eq ((HBb.out.alloc HS2.out (.cells #[.int .u64 (h : Nat)] 49)).alloc (by simp; have := HS2.out; omega) (.cells #[.int .i64 x] 3)) rfl rfl rfl rfl) (fun k e => (HV5.out k e).1) HS2.out | exact grow_below2 hgrow6 (below_eq ((HBb.out.alloc HS2.out (.cells #[.int .i64 x] 3)).alloc (by simp; have := HS2.out; omega) (.cells #[.int .u64 (h : Nat)] 49)) rfl rfl rfl rfl) (fun k e => (HV5.out k e).1) HS2.out); (first | (have hFI : w6.ownsRow (w.heap.size + 2) 3 1 (.slice (some ⟨g5, 0, none⟩) (I.length + 1) cap5) (I.length + 1) (I.map (Value.int .i64) ++ [.int .i64 x]) := (by first | exact kept_of hgrow6 (own_of_heap hown5 rfl) (row_ne hH5 hown5 (by decide)) | exact kept_of hgrow6 (own_of_heap (hown5.alloc (.cells #[.int .u64 (h : Nat)] 49)) rfl) (row_ne hH5 hown5 (by decide)))) | (have hI6 : w6.ownsRow (w.heap.size + 2) 3 1 (.slice a4 I.length ca4) I.length (I.map (Value.int .i64)) := (by first | exact kept_of hgrow6 (own_of_heap (HIW.out.alloc (.cells #[.int .u64 (h : Nat)] 49)) rfl) HNE1.out | exact kept_of hgrow6 (own_of_heap ((HIW.out.alloc (.cells #[.int .u64 (h : Nat)] 49)).alloc (.cells #[.int .i64 x] 3)) rfl) HNE1.out | exact kept_of hgrow6 (own_of_heap ((HIW.out.alloc (.cells #[.int .i64 x] 3)).alloc (.cells #[.int .u64 (h : Nat)] 49)) rfl) HNE1.out))); (try (first | (have hQ6 : Blk w6 w2.heap.size #[.int .i64 x] 3 := (by exact grown_of hgrow6 (blk_of_heap HL1a.out rfl) (HN5.out _ (by omega)))) | (have hQ6 : Blk w6 (w2.heap.size + 1) #[.int .i64 x] 3 := (by exact grown_of hgrow6 (blk_of_heap HL1b.out rfl) (HN5.out _ (by omega))))))))
            all_goals
              have HTF : Hid (TreeW w6 (w.heap.size + 1) w.heap.size (j + 1) (I ++ [x]) (Hs ++ [(h : Int)])) := Lib.hid (HT2.out.keepB hB6 (by omega) (by omega))
              have HIF := Lib.hid hFI; have HHF := Lib.hid hown6; have HBF := Lib.hid hB6
              clear hown5 hown6 hFI hH5 hB5 hB6 hgrow5 hgrow6 hat5 hat6 hlt5 hlt6
              go_wp2_with (go_at_call 43; refine (sizeF_is _ (w.heap.size + 1) w.heap.size (j + 1) (I ++ [x]) (Hs ++ [(h : Int)]) HTF.out).mono ?_; rintro e w9 ⟨rfl, rfl⟩; rw [show (I ++ [x]).length = I.length + 1 by simp])
              go_roundg (N - (j + 1))
              case rel =>
                refine ⟨j + 1, I ++ [x], Hs ++ [(h : Int)], by omega, rfl, by go_num, ⟨by rw [List.length_append]; have := HTS.out.len; simp; omega, by rw [List.length_append, List.map_append]; exact HIF.out, by rw [List.length_append, List.map_append]; exact HHF.out, HTF.out, ?_, ⟨HP.out.1, HP.out.2.1, ?_⟩⟩⟩
                · exact HTS.out.bel.trans ((below_of_g HG2.out HTS.out.bel.size HP.out.1).trans (HBF.out.mono (by omega)))
                · have h1 := HS2.out; have h2 := HBF.out.size; omega
              case measure => omega
        · have hm : x ∉ I := fun hm => hxr (HTR.out.rng x hm)
          have HIX := Lib.hid (idx_no (ca := ca4) HRL.out hI1 hm)
          have hx2 : x < 1 ∨ 1000000 < x := by omega
          have HAD := Lib.hid (addF_range _ _ _ _ I Hs HTW.out x h hx2)
          by_cases hx1 : x < 1
          · clear hm hx2 hxr
            go_wp2_with (first
              | (go_at_call 35; (with_reducible refine HIX.out.mono ?_); rintro e w2 ⟨rfl, rfl⟩)
              | (go_at_call 36; (with_reducible refine HAD.out.mono ?_); rintro e w2 ⟨rfl, rfl⟩)
              | (go_at_call 43; refine (sizeF_is _ (w.heap.size + 1) w.heap.size j I Hs HTW.out).mono ?_; rintro e w9 ⟨rfl, rfl⟩))
            go_roundg (N - (j + 1))
            case rel => exact ⟨j + 1, I, Hs, by omega, rfl, by go_num, HTS.out.more⟩
            case measure => omega
          · have hx3 : (1000000 : Int) < x := by omega
            clear hm hx2 hxr
            go_wp2_with (first
              | (go_at_call 35; (with_reducible refine HIX.out.mono ?_); rintro e w2 ⟨rfl, rfl⟩)
              | (go_at_call 36; (with_reducible refine HAD.out.mono ?_); rintro e w2 ⟨rfl, rfl⟩)
              | (go_at_call 43; refine (sizeF_is _ (w.heap.size + 1) w.heap.size j I Hs HTW.out).mono ?_; rintro e w9 ⟨rfl, rfl⟩))
            go_roundg (N - (j + 1))
            case rel => exact ⟨j + 1, I, Hs, by omega, rfl, by go_num, HTS.out.more⟩
            case measure => omega
      · by_cases hw1 : wt = 1
        · subst hw1
          by_cases hm : x ∈ I
          · obtain ⟨k, hk⟩ := List.mem_iff_getElem?.1 hm
            have hkl := (List.getElem?_eq_some_iff.1 hk).1
            have hkl5 : k < Hs.length := by rw [← HTR.out.len]; exact hkl
            have HIX := Lib.hid (idx_at (ca := ca4) HRL.out hI1 HTR.out.nd k hk)
            have HRM := Lib.hid (removeF_ok _ _ _ _ I Hs HTW.out x k hk)
            have hk0 : (0 : Int) ≤ (k : Int) := by omega
            have hk1 : ¬ (k : Int) < 0 := by omega
            obtain ⟨g4, rfl⟩ := row_some HTS.out.ids (by omega)
            obtain ⟨g5, rfl⟩ := row_some HTS.out.hss (by omega)
            have HP := Lib.hid HTS.out.hp
            have hb4 := HTS.out.ids.lt g4 rfl
            have hb5 := HTS.out.hss.lt g5 rfl
            have hn4 : (some g4 : Option Nat) ≠ some w.heap.size := fun e => by have := Option.some.inj e; omega
            have hn5 : (some g5 : Option Nat) ≠ some w.heap.size := fun e => by have := Option.some.inj e; omega
            have hn45 : (some g5 : Option Nat) ≠ some g4 := by
              rcases row_ne HTS.out.ids HTS.out.hss (by decide) with h0 | h0
              · cases h0
              · exact h0
            have hp4 : (some (w.heap.size + 1) : Option Nat) ≠ some g4 := fun e => by have := Option.some.inj e; omega
            have hp5 : (some (w.heap.size + 1) : Option Nat) ≠ some g5 := fun e => by have := Option.some.inj e; omega
            have HN4 := Lib.hid hn4; have HN5 := Lib.hid hn5; have HN45 := Lib.hid hn45; have HP4 := Lib.hid hp4; have HP5 := Lib.hid hp5
            clear hn4 hn5 hn45 hp4 hp5
            have HEL : Hid ((I.eraseIdx k).length = I.length - 1) := Lib.hid (List.length_eraseIdx_of_lt hkl)
            have HEH : Hid ((Hs.eraseIdx k).length = Hs.length - 1) := Lib.hid (List.length_eraseIdx_of_lt hkl5)
            clear hm hk hw0
            go_wp2_with (first
              | (go_at_call 35; (with_reducible refine HIX.out.mono ?_); rintro e w2 ⟨rfl, rfl⟩)
              | (go_at_call 37; (with_reducible refine HRM.out.mono ?_); rintro e w2 ⟨rfl, hT2, hG2⟩; have HT2 := Lib.hid hT2; have HG2 := Lib.hid hG2; have hi2 := HTS.out.ids.kept hG2 (.inr HN4.out); have hh2 := HTS.out.hss.kept hG2 (.inr HN5.out); have HI2 := Lib.hid hi2; have HH2 := Lib.hid hh2; clear hi2 hh2; clear hT2 hG2)
              | (go_at_call 38; refine (delInts_k _ _ g4 _ I k hkl HI2.out).mono ?_; rintro e w3 ⟨rfl, hO3, hG3⟩; have HO3 := Lib.hid hO3; have HG3 := Lib.hid hG3; have hh3 := HH2.out.kept hG3 (.inr HN45.out); have HH3 := Lib.hid hh3; clear hh3; clear hO3 hG3)
              | (go_at_call 39; refine (delHashes_k _ _ g5 _ Hs k hkl5 HH3.out).mono ?_; rintro e w4 ⟨rfl, hO4, hG4⟩; have HO4 := Lib.hid hO4; have HG4 := Lib.hid hG4; have hi4 := HO3.out.kept hG4 (.inr (fun e => HN45.out e.symm)); have HI4 := Lib.hid hi4; have ht4 := (HT2.out.keep HG3.out HP4.out (fun e => HN4.out e.symm)).keep hG4 HP5.out (fun e => HN5.out e.symm); have HT4 := Lib.hid ht4; clear hi4 ht4; clear hO4 hG4)
              | (go_at_call 43; refine (sizeF_is _ (w.heap.size + 1) w.heap.size j (I.eraseIdx k) (Hs.eraseIdx k) HT4.out).mono ?_; rintro e w9 ⟨rfl, rfl⟩; rw [HEL.out]))
            go_roundg (N - (j + 1))
            case rel =>
              refine ⟨j + 1, I.eraseIdx k, Hs.eraseIdx k, by omega, rfl, by go_num, ⟨by rw [HEL.out]; have := HTS.out.len; omega, by rw [HEL.out]; exact HI4.out, by rw [HEH.out]; exact HO4.out, HT4.out.more (by omega), ?_, ⟨HP.out.1, HP.out.2.1, ?_⟩⟩⟩
              · exact HTS.out.bel.trans ((below_of_g HG2.out HTS.out.bel.size HP.out.1).trans ((below_of_g HG3.out (Nat.le_trans HTS.out.bel.size HG2.out.size) (by omega)).trans (below_of_g HG4.out (Nat.le_trans (Nat.le_trans HTS.out.bel.size HG2.out.size) HG3.out.size) (by omega))))
              · have h1 := HP.out.2.2; have h2 := HG2.out.size; have h3 := HG3.out.size; have h4 := HG4.out.size; omega
            case measure => omega
          · have HIX := Lib.hid (idx_no (ca := ca4) HRL.out hI1 hm)
            have HRM := Lib.hid (removeF_none _ _ _ _ I Hs HTW.out x hxw hm)
            clear hm hw0
            go_wp2_with (first
              | (go_at_call 35; (with_reducible refine HIX.out.mono ?_); rintro e w2 ⟨rfl, rfl⟩)
              | (go_at_call 37; (with_reducible refine HRM.out.mono ?_); rintro e w2 ⟨rfl, rfl⟩)
              | (go_at_call 43; refine (sizeF_is _ (w.heap.size + 1) w.heap.size j I Hs HTW.out).mono ?_; rintro e w9 ⟨rfl, rfl⟩))
            go_roundg (N - (j + 1))
            case rel => exact ⟨j + 1, I, Hs, by omega, rfl, by go_num, HTS.out.more⟩
            case measure => omega
        · have hw0' : (wt == 0) = false := by simpa using hw0
          have hw1' : (wt == 1) = false := by simpa using hw1
          have HIX := Lib.hid (idx_any (ca := ca4) (x := x) HRL.out hI1)
          clear hw0 hw1
          by_cases hm : m < 0 ∨ 64 < m
          · have HNR := Lib.hid (nearF_range (wr.alloc (.cells #[.int .i64 wt, .int .i64 x, .int .i64 m, .int .u64 (h : Nat)] 64)) (w.heap.size + 1) h m hm)
            by_cases hm0 : m < 0
            · clear hm
              go_wp2_with (first
                | (go_at_call 35; (with_reducible refine HIX.out.mono ?_); rintro e w2 ⟨⟨r, rfl⟩, rfl⟩)
                | (go_at_call 40; (with_reducible refine HNR.out.mono ?_); rintro e w2 ⟨rfl, rfl⟩))
              go_roundg (N - (j + 1))
              case rel => exact ⟨j + 1, I, Hs, by omega, rfl, by go_num, HTS.out.more⟩
              case measure => omega
            · have hm1 : (64 : Int) < m := by omega
              clear hm
              go_wp2_with (first
                | (go_at_call 35; (with_reducible refine HIX.out.mono ?_); rintro e w2 ⟨⟨r, rfl⟩, rfl⟩)
                | (go_at_call 40; (with_reducible refine HNR.out.mono ?_); rintro e w2 ⟨rfl, rfl⟩))
              go_roundg (N - (j + 1))
              case rel => exact ⟨j + 1, I, Hs, by omega, rfl, by go_num, HTS.out.more⟩
              case measure => omega
          · have hm1 : 0 ≤ m := by omega
            have hm2 : m ≤ 64 := by omega
            have hm3 : ¬ m < 0 := by omega
            have hm4 : ¬ (64 : Int) < m := by omega
            have HNR := Lib.hid (nearF_is _ (w.heap.size + 1) w.heap.size j I Hs HTW.out hI1 h hhb m hm1 hm2 D HD.out HTR.out)
            have HBX := Lib.hid (Blk.new wr #[.int .i64 wt, .int .i64 x, .int .i64 m, .int .u64 (h : Nat)] 64)
            have HLEN5 := Lib.hid HTR.out.len
            clear hm
            go_wp2_with (first
              | (go_at_call 35; (with_reducible refine HIX.out.mono ?_); rintro e w2 ⟨⟨r, rfl⟩, rfl⟩)
              | (go_at_call 40; (with_reducible refine HNR.out.mono ?_); rintro e w3 ⟨a7, ca7, rfl, hL, hB3⟩; obtain ⟨t0, t1, t2, t3⟩ := (HBX.out.keep hB3).four; have HL := Lib.hid hL; have HB3 := Lib.hid hB3; clear hL hB3))
            have HS3 := Lib.hid (HTS.out.keep HB3.out)
            have HBX3 := Lib.hid (HBX.out.keep HB3.out)
            obtain ⟨pr, hpr⟩ : ∃ pr, nearB D h m = pr := ⟨_, rfl⟩
            have HPR := Lib.hid hpr
            obtain ⟨i0, hi0, hz0, hz1, hz2⟩ := info_parts infoInt
            have HI0 := Lib.hid hi0; have HI1 := Lib.hid hz0; have HI2 := Lib.hid hz1; have HI3 := Lib.hid hz2
            clear hpr hi0 hz0 hz1 hz2 t0 t1 t2 t3
            go_loopg [13, 61] Hs.length (fun gk v13 i wx => ∃ q : Nat, q ≤ Hs.length ∧ gk = Hs.length - q ∧ i = .int .i64 q ∧ wx.ownsRow w3.heap.size 3 1 v13 ((I.take q).filter pr).length (((I.take q).filter pr).map (Value.int .i64)) ∧ Below w3.heap.size w3 wx)
            case atStart => exact ⟨0, by omega, rfl, rfl, World.ownsRow_nil _ _ _ _, Below.refl _ _⟩
            case round =>
              obtain ⟨q, hq, rfl, rfl, hO, hB⟩ := hrel
              have hlen5 := HLEN5.out
              have hfl : ((I.take q).filter pr).length ≤ 1000 := Nat.le_trans (List.length_filter_le _ _) (by rw [List.length_take]; omega)
              obtain ⟨t0, t1, t2, t3⟩ := (HBX3.out.keep hB).four
              by_cases hqt : q < Hs.length
              · obtain ⟨y, hy⟩ : ∃ y, I[q]? = some y := ⟨_, List.getElem?_eq_getElem (by omega)⟩
                obtain ⟨g, hg⟩ : ∃ g, Hs[q]? = some g := ⟨_, List.getElem?_eq_getElem hqt⟩
                obtain ⟨b4, rfl⟩ := row_some HS3.out.ids (by omega)
                obtain ⟨b5, rfl⟩ := row_some HS3.out.hss (by omega)
                have hl4 := (HS3.out.ids.lt b4 rfl).2
                have hl5 := (HS3.out.hss.lt b5 rfl).2
                have cy : wr.cell? ⟨b4, q, none⟩ = some (.int .i64 y) := by
                  rw [hB.cell (p := ⟨b4, q, none⟩) hl4]
                  have h1 := HS3.out.ids.cellAt q (by omega)
                  rw [List.getElem?_map, hy] at h1
                  exact h1
                have cg : wr.cell? ⟨b5, q, none⟩ = some (.int .u64 g) := by
                  rw [hB.cell (p := ⟨b5, q, none⟩) hl5]
                  have h1 := HS3.out.hss.cellAt q (by omega)
                  rw [List.getElem?_map, hg] at h1
                  exact h1
                have hgb := HTR.out.hb g (List.mem_of_getElem? hg)
                obtain ⟨gn, rfl⟩ : ∃ gn : Nat, g = gn := ⟨g.toNat, by omega⟩
                have hval : Tr.val D y = gn := by rw [HTR.out.val_at hy hg]; rfl
                have hpry : pr y = decide ((Pop.dist gn h : Int) ≤ m) := by rw [← HPR.out, nearB, hval]
                have HDF := Lib.hid (fun W => differ_is gn h (by omega) hhb W)
                have HY := Lib.hid hy; have HPRY := Lib.hid hpry
                generalize Pop.dist gn h = dd at HDF HPRY
                have q0' : (0 : Int) ≤ (q : Int) := by omega
                have q1' : (q : Int) < (Hs.length : Int) := by omega
                have q2' : (q : Int) < (I.length : Int) := by omega
                clear hy hg hval hpry hl4 hl5 hgb hlen5
                by_cases hd : (dd : Int) ≤ m
                · have hd' : decide ((dd : Int) ≤ m) = true := decide_eq_true hd
                  have HN : Hid ((I.take (q + 1)).filter pr = (I.take q).filter pr ++ [y]) := Lib.hid (by rw [filter_next HY.out, HPRY.out, hd', if_pos rfl])
                  have hO1 : ∀ d, ((wr.drewN d).alloc (.cells #[.int .i64 y] 3)).ownsRow w3.heap.size 3 1 u13 ((I.take q).filter pr).length (((I.take q).filter pr).map (Value.int .i64)) := fun d => World.ownsRow.alloc (w := wr.drewN d) hO _
                  have hbg : ∀ d, w3.heap.size ≤ ((wr.drewN d).alloc (.cells #[.int .i64 y] 3)).heap.size := fun d => by have := hB.size; simp [World.drewN]; omega
                  have HB1 := Lib.hid (fun d => (below_drewN hB d).alloc (hB.size) (.cells #[.int .i64 y] 3))
                  clear hO
                  go_wp2_with fail
                  go_quiet ((go_at_call 41; exact quiet_same (HDF.out _)))
                  go_wp2_with (at_builtin; refine wpList_append_own2 _ rfl _ _ 29 rfl w3.heap.size 3 i0 (.int .i64 0) 1 8 Try.underlying29 HI0.out HI1.out HI2.out HI3.out rfl (by decide) _ _ _ rfl (hO1 _) ⟨wr.heap.size, 0, none⟩ 1 1 [.int .i64 y] rfl (by decide) rfl (cell_one_new _ _ _) (by simp [Value.oneCell']) (by unfold maxLen; omega) (by omega) (hbg _) ?_; intro g5 cap5 w5 hown5 hgrow5 hnew5)
                  go_roundg (Hs.length - (q + 1))
                  case rel => exact ⟨q + 1, by omega, rfl, by go_num, by rw [HN.out, List.length_append, List.map_append]; exact hown5, (HB1.out _).trans (row_below (hO1 _) hgrow5 (hbg _))⟩
                  case measure => omega
                · have hd' : decide ((dd : Int) ≤ m) = false := decide_eq_false hd
                  have hd2 : ((dd : Int) ≤ m) = False := eq_false hd
                  have HN : Hid ((I.take (q + 1)).filter pr = (I.take q).filter pr) := Lib.hid (by rw [filter_next HY.out, HPRY.out, hd', if_neg (by simp), List.append_nil])
                  clear hd
                  go_wp2_with fail
                  go_quiet ((go_at_call 41; exact quiet_same (HDF.out _)))
                  go_wp2_with fail
                  go_roundg (Hs.length - (q + 1))
                  case rel => exact ⟨q + 1, by omega, rfl, by go_num, by rw [HN.out]; exact hO, below_drewN hB _⟩
                  case measure => omega
              · obtain rfl : q = Hs.length := by omega
                have hts : I.take Hs.length = I := List.take_of_length_le (by omega)
                rw [hts] at hO hfl
                obtain ⟨a8, ca8, rfl, -, -⟩ := row_slice hO
                have HSR := Lib.hid (sort_row a8 ca8 _ _ _ hO hfl hB.size)
                have HEQ := Lib.hid (fun ys (h1 : ys.Perm (I.filter pr)) (h2 : ys.Pairwise (· ≤ ·)) => near_eq I ys pr h1 h2)
                have HBw := Lib.hid hB
                have hml : ((I.mergeSort leI).filter (nearB D h m)).length ≤ 1000 := Nat.le_trans (List.length_filter_le _ _) (by rw [List.length_mergeSort]; exact hI1)
                clear hO hts t0 t1 t2 t3 hB hlen5
                go_wp2_with (first
                  | (go_at_call 42; (with_reducible refine HSR.out.mono ?_); rintro e w5 ⟨ys, rfl, hyl, hyp, hys, hyr, hB5⟩; have hB35 := HBw.out.trans hB5; have hle := equal_ints a7 _ ca7 a8 ys ca8 w5 (HL.out.keep hB35) hyr (by omega) (by omega); rw [hyl] at hle; have heq := HEQ.out ys hyp hys; rw [← HPR.out] at heq; rw [decide_eq_true heq] at hle; have HLE := Lib.hid hle; have HB35 := Lib.hid hB35; clear hyl hyp hys hyr hB5 hB35 hle heq)
                  | (go_at_call 17; (with_reducible refine HLE.out.mono ?_); rintro e w6 ⟨rfl, hB6⟩; have hB36 := HB35.out.trans (hB6.mono HB35.out.size); have HS6 := Lib.hid (HS3.out.keep hB36); clear hB6 hB36)
                  | (go_at_call 43; refine (sizeF_is _ (w.heap.size + 1) w.heap.size j I Hs HS6.out.tree).mono ?_; rintro e w9 ⟨rfl, rfl⟩))
                go_roundg (N - (j + 1))
                case rel => exact ⟨j + 1, I, Hs, by omega, rfl, by go_num, HS6.out.more⟩
                case measure => omega
    · obtain rfl : j = N := by omega
      have HBB := Lib.hid hS.bel
      clear hS
      go_wp2_with fail
      go_ret
      exact ⟨rfl, HBB.out⟩
end Go.Proofs.Ytbbedepojogfmaa
