/- Near. -/
import Derived.Test.YtbbedepojogfmaaTreeKeys
import Derived.Test.YtbbedepojogfmaaPixDiffer
import Derived.Test.YtbbedepojogfmaaOwn
namespace Go.Proofs.Ytbbedepojogfmaa
open Go.RowKit Go.Sort Go.Shelf Go.Maps
set_option linter.unusedVariables false
/-- Whether the hash at a number is near. -/
def nearB (D : DataW Unit) (hh : Nat) (most : Int) (x : Int) : Bool := decide ((Pop.dist (Tr.val D x) hh : Int) ≤ most)
theorem nearF_range (w : World) (p : Nat) (hh : Nat) (most : Int) (hm : most < 0 ∨ 64 < most) : Calls Try.prog 40 #[.pointer (some ⟨p, 0, none⟩), .int .u64 hh, .int .i64 most] w fun e w' => e = .returned (.tuple #[.slice none 0 0, .int .i64 2]) ∧ w = w' := by
  have HX := Lib.hid hm; clear hm
  go_enter Try.func40, Try.ntmps40
  go_wp2_with (go_at_call 76; refine (outsideX_yes _ _ _ _ HX.out).mono ?_; rintro e w' ⟨rfl, rfl⟩)
  go_ret2
  exact ⟨rfl, rfl⟩
def NearPost (w : World) (L : List Int) (e : Ending) (w' : World) : Prop := ∃ a ca, e = .returned (.tuple #[.slice a L.length ca, .int .i64 0]) ∧ RowL w' a L ∧ Below w.heap.size w w'
theorem filter_next {l : List Int} {p : Int → Bool} {j : Nat} {x : Int} (h : l[j]? = some x) : (l.take (j + 1)).filter p = (l.take j).filter p ++ (if p x = true then [x] else []) := by
  obtain ⟨hlt, hx⟩ := List.getElem?_eq_some_iff.1 h
  rw [List.take_add_one, h, List.filter_append]
  congr 1
  simp only [Option.toList_some, List.filter_cons, List.filter_nil]
theorem below_grown0 {B : Nat} {a b : World} (h : Below B a b) (hB : a.heap.size ≤ B) : a.grownBy b none := ⟨h.os, h.tape, h.output, h.size, fun k hk _ => h.block k (by omega)⟩
theorem row_slice {w : World} {B : Nat} {e : TypeId} {k : Nat} {v : Value} {n : Nat} {xs : List Value} (h : w.ownsRow B e k v n xs) : ∃ a ca, v = .slice a n ca ∧ n ≤ ca ∧ ca ≤ 9223372036854775807 := by
  rcases h.2 with ⟨rfl, rfl⟩ | ⟨g, cap, cur, rfl, _, _, h1, h2, _⟩
  · exact ⟨_, _, rfl, Nat.le_refl _, by omega⟩
  · exact ⟨_, _, rfl, h1, by unfold maxLen at h2; exact h2⟩
theorem row_some {w : World} {B : Nat} {e : TypeId} {k : Nat} {a : Option Addr} {n ca : Nat} {xs : List Value} (h : w.ownsRow B e k (.slice a n ca) n xs) (hn : 0 < n) : ∃ g, a = some ⟨g, 0, none⟩ := by
  rcases h.2 with ⟨h1, rfl⟩ | ⟨g, cap, cur, h1, _⟩
  · omega
  · cases h1; exact ⟨g, rfl⟩
theorem row_ints {w : World} {B : Nat} {e : TypeId} {a : Option Addr} {ca : Nat} {xs : List Int} (h : w.ownsRow B e 1 (.slice a xs.length ca) xs.length (xs.map (Value.int .i64))) : RowL w a xs := by
  intro hn
  obtain ⟨g, rfl⟩ := row_some h hn
  exact RowL.of_own h hn
theorem row_below {w w' : World} {B : Nat} {e : TypeId} {k : Nat} {v : Value} {n : Nat} {xs : List Value} (h : w.ownsRow B e k v n xs) (hg : w.grownBy w' v.ownBlock) (hB : B ≤ w.heap.size) : Below B w w' :=
  ⟨hg.os, hg.tape, hg.output, hg.size, fun i hi => hg.block i (by omega) fun e => by have := (h.lt i e.symm).1; omega⟩
theorem wf_nat {c : Int} (h : (Lit.int .u64 c).wf = true) : ∃ n : Nat, c = n ∧ n < 18446744073709551616 := by
  have h2 : 0 ≤ c ∧ c < 18446744073709551616 := by
    have h1 : IntKind.u64.min = 0 := rfl
    have h3 : IntKind.u64.max = 18446744073709551615 := rfl
    simp [Lit.wf] at h
    omega
  exact ⟨c.toNat, by omega, by omega⟩
set_option maxRecDepth 100000 in
set_option maxHeartbeats 8000000 in
theorem nearF_is (w : World) (p B n : Nat) (I Hs : List Int) (hT : TreeW w p B n I Hs) (hI : I.length ≤ 1000) (hh : Nat) (hhb : hh < 18446744073709551616) (most : Int) (hm1 : 0 ≤ most) (hm2 : most ≤ 64) (D : DataW Unit) (hown : w.ownsMap Try.prog 3 (plainElem Try.prog 49) B n D) (hTr : Tr D I Hs) :
    Calls Try.prog 40 #[.pointer (some ⟨p, 0, none⟩), .int .u64 hh, .int .i64 most] w (NearPost w ((I.mergeSort leI).filter (nearB D hh most))) := by
  have q0 := hT.blk.one
  have hperm := hTr.perm hown lawInt Try.underlying3
  have HKEYS := Lib.hid (fun W => keysF_is (some B) W)
  have HSK := Lib.hid (sortedKeys_is B n D w hown (by rw [hTr.size]; omega))
  have HTR := Lib.hid hTr; have HOWN := Lib.hid hown; have HPERM := Lib.hid hperm; have HBK := Lib.hid hT.blk
  have hpl := hT.blk.lt
  obtain ⟨i0, hi0, hz0, hz1, hz2⟩ := info_parts infoInt
  have HI0 := Lib.hid hi0; have HI1 := Lib.hid hz0; have HI2 := Lib.hid hz1; have HI3 := Lib.hid hz2
  clear hTr hown hperm hT hi0 hz0 hz1 hz2
  go_enter Try.func40, Try.ntmps40
  go_wp2_with (first
    | (go_at_call 76; refine (outsideX_no _ _ _ _ hm1 hm2).mono ?_; rintro e w' ⟨rfl, rfl⟩)
    | (go_at_call 79; refine (HKEYS.out _).mono ?_; rintro e w' ⟨rfl, rfl⟩)
    | (go_at_call 78; refine HSK.out.mono ?_; rintro e w3 ⟨v, ss, rfl, hS, hrow, hB3⟩; obtain ⟨a3, ca3, rfl, -, -⟩ := row_slice hrow; have HS := Lib.hid hS; have HROW0 := Lib.hid hrow; have HB3 := Lib.hid hB3; clear hS hrow hB3))
  have hss : ss.mergeSort leI = I.mergeSort leI := mergeSort_of_perm_i (HS.out.trans HPERM.out.symm)
  have hsl : ss.length = I.length := (HS.out.trans HPERM.out.symm).length_eq
  have HROW : Hid (w3.ownsRow (w.heap.size + 1) 3 1 (.slice a3 I.length ca3) I.length ((I.mergeSort leI).map (Value.int .i64))) := Lib.hid (by have h := HROW0.out; rw [hsl] at h; rw [← hss]; exact h)
  rw [hsl]
  have hSL : (I.mergeSort leI).length = I.length := List.length_mergeSort _
  have HMEM : Hid (∀ x ∈ I.mergeSort leI, x ∈ I) := Lib.hid fun x hx => (List.mergeSort_perm I leI).mem_iff.1 hx
  clear HROW0 hss hsl HS
  obtain ⟨S, hS⟩ : ∃ S, I.mergeSort leI = S := ⟨_, rfl⟩
  rw [hS] at HROW hSL HMEM
  obtain ⟨pr, hpr⟩ : ∃ pr, nearB D hh most = pr := ⟨_, rfl⟩
  have HLL : Hid ((I.mergeSort leI).filter (nearB D hh most) = S.filter pr) := Lib.hid (by rw [hS, hpr])
  clear hS
  have HPR := Lib.hid hpr
  clear hpr q0
  go_loopg [8, 20] I.length (fun gk s8 i wr => ∃ j : Nat, j ≤ I.length ∧ gk = I.length - j ∧ i = .int .i64 j ∧ wr.ownsRow w3.heap.size 3 1 s8 ((S.take j).filter pr).length (((S.take j).filter pr).map (Value.int .i64)) ∧ Below w3.heap.size w3 wr)
  case atStart => exact ⟨0, by omega, rfl, rfl, World.ownsRow_nil _ _ _ _, Below.refl _ _⟩
  case round =>
    obtain ⟨j, hj, rfl, rfl, hO, hB⟩ := hrel
    have hfl : ((S.take j).filter pr).length ≤ 1000 := Nat.le_trans (List.length_filter_le _ _) (by rw [List.length_take]; omega)
    by_cases hlt : j < I.length
    · obtain ⟨x, hx⟩ : ∃ x, S[j]? = some x := ⟨_, List.getElem?_eq_getElem (by omega)⟩
      obtain ⟨g3, rfl⟩ := row_some HROW.out (by omega)
      have hg3 := (HROW.out.lt g3 rfl).2
      have cx : wr.cell? ⟨g3, j, none⟩ = some (.int .i64 x) := by
        rw [hB.cell (p := ⟨g3, j, none⟩) hg3]
        have h := HROW.out.cellAt j (by omega)
        rw [List.getElem?_map, hx] at h
        exact h
      have hxI := HMEM.out x (List.mem_of_getElem? hx)
      have hkey := keyI x (HTR.out.rng x hxI)
      have hbw : Below w.heap.size w wr := HB3.out.trans (hB.mono HB3.out.size)
      have q0 := (HBK.out.keep hbw).one
      have hownr := HOWN.out.kept (below_grown0 hbw (Nat.le_refl _)) (by simp)
      obtain ⟨c, hrun, hat, hwc⟩ := hownr.lookup_int lawInt Try.underlying110 Try.underlying49 (zeroU _) hkey
      obtain ⟨cn, rfl, hcn⟩ := wf_nat hwc
      have hval : Tr.val D x = cn := by unfold Tr.val; rw [hat]; simp
      have hprx : pr x = decide ((Pop.dist cn hh : Int) ≤ most) := by rw [← HPR.out, nearB, hval]
      have HD := Lib.hid (fun W => distance_is cn hh hcn hhb W)
      have HX := Lib.hid hx; have HPRX := Lib.hid hprx
      generalize Pop.dist cn hh = dd at *
      have hj0 : (0 : Int) ≤ (j : Int) := by omega
      have hj1 : (j : Int) < (I.length : Int) := by omega
      clear hx hxI hkey hownr hat hwc hval hprx hbw
      by_cases hd : (dd : Int) ≤ most
      · have HN : Hid ((S.take (j + 1)).filter pr = (S.take j).filter pr ++ [x]) := Lib.hid (by rw [filter_next HX.out, HPRX.out, decide_eq_true hd, if_pos rfl])
        have hO1 := hO.alloc (.cells #[.int .i64 x] 3)
        have hbg : w3.heap.size ≤ (wr.alloc (.cells #[.int .i64 x] 3)).heap.size := by have := hB.size; simp; omega
        have HB1 := Lib.hid (hB.alloc (hB.size) (.cells #[.int .i64 x] 3))
        clear hO
        go_wp2_with (first
          | (go_at_call 29; refine (HD.out _).mono ?_; rintro e w2 ⟨rfl, rfl⟩)
          | (at_builtin; refine wpList_append_own2 _ rfl _ _ 29 rfl w3.heap.size 3 i0 (.int .i64 0) 1 8 Try.underlying29 HI0.out HI1.out HI2.out HI3.out rfl (by decide) _ _ _ rfl hO1 ⟨wr.heap.size, 0, none⟩ 1 1 [.int .i64 x] rfl (by decide) rfl (cell_one_new _ _ _) (by simp [Value.oneCell']) (by unfold maxLen; omega) (by omega) hbg ?_; intro g5 cap5 w5 hown5 hgrow5 hnew5))
        go_roundg (I.length - (j + 1))
        case rel => exact ⟨j + 1, by omega, rfl, by go_num, by rw [HN.out, List.length_append, List.map_append]; exact hown5, HB1.out.trans (row_below hO1 hgrow5 hbg)⟩
        case measure => omega
      · have HN : Hid ((S.take (j + 1)).filter pr = (S.take j).filter pr) := Lib.hid (by rw [filter_next HX.out, HPRX.out, decide_eq_false hd, if_neg (by simp), List.append_nil])
        have hd' : decide ((dd : Int) ≤ most) = false := decide_eq_false hd
        have hd2 : ((dd : Int) ≤ most) = False := eq_false hd
        clear hd
        go_wp2_with (go_at_call 29; refine (HD.out _).mono ?_; rintro e w2 ⟨rfl, rfl⟩)
        go_roundg (I.length - (j + 1))
        case rel => exact ⟨j + 1, by omega, rfl, by go_num, by rw [HN.out]; exact hO, hB⟩
        case measure => omega
    · obtain rfl : j = I.length := by omega
      have HBW : Hid (Below w.heap.size w wr) := Lib.hid (HB3.out.trans (hB.mono HB3.out.size))
      have hts : S.take I.length = S := List.take_of_length_le (by omega)
      rw [hts] at hO hfl
      obtain ⟨a, ca, rfl, hca1, hca2⟩ := row_slice hO
      have HRL := Lib.hid (row_ints hO)
      clear hO hts
      go_wp2_with (go_at_call 57; refine (clip_ints a _ ca _ hca1 hca2).mono ?_; rintro e w2 ⟨rfl, rfl⟩)
      go_ret2
      refine ⟨a, (S.filter pr).length, ?_, ?_, HBW.out⟩
      · rw [HLL.out]; rfl
      · rw [HLL.out]; exact HRL.out
end Go.Proofs.Ytbbedepojogfmaa
