/- Parts of the proof, no condition: StWoS, StWoG, StDelF, StRel, StRem. -/
import Derived.Test.YthdiccdnggloiaaGreatDoorEv16
import Derived.Test.YthdiccdnggloiaaGreatDoorEv17
import Derived.Test.YthdiccdnggloiaaGreatDoorBn3
import Derived.Test.YthdiccdnggloiaaGreatDoorBn1
import Derived.Test.YthdiccdnggloiaaGreatDoorBn2
import Derived.Maps.RangeWalk
set_option maxRecDepth 100000
set_option maxHeartbeats 16000000
set_option linter.unusedSimpArgs false
set_option linter.unusedVariables false
namespace Go.Proofs.YthdiccdnggloiaaGreatDoor
open Go.RowKit Go.Sort Go.Shelf Go.Maps
theorem flat_delS (L : List ByteArray) (p : Nat) : (St.eS.flat L).take (p * 1) ++ (St.eS.flat L).drop ((p + 1) * 1) = St.eS.flat (L.eraseIdx p) := by
 have h1 := Enc.flat_take St.eS L p
 have h2 := Enc.flat_drop St.eS L (p + 1)
 have h3 : St.eS.k = 1 := rfl
 rw [h3] at h1 h2
 rw [h1, h2, ← Enc.flat_append, List.eraseIdx_eq_take_drop_succ]
theorem woS_is (L : List ByteArray) (hu : St.Up id L) (h1m : L.length ≤ 900000) (k : ByteArray) (a : Option Addr) (ca : Nat) (w : World) (hl : L.length ≤ ca ∧ ca ≤ 9223372036854775807) (hr : RowE St.eS w a L) :
  Calls Tryz.prog 65 #[.agg #[.func (.func 149) #[] #[], .slice a L.length ca], .string k] w (ClnPost St.eS 9 w (St.wo id k L)) := by
 obtain ⟨W1, hW1, hP, hz1, hB1⟩ := box w #[.func (.func 149) #[] #[], .slice a L.length ca] 103
 have HW1 := Lib.hid hW1; have HBB := Lib.hid hB1; have HZS : Hid (w.heap.size ≤ W1.heap.size) := Lib.hid hB1.size
 have HCL : Hid (∀ V, Below W1.heap.size W1 V → V.cell? ⟨w.heap.size, 0, none⟩ = some (.func (.func 149) #[] #[]) ∧ V.cell? ⟨w.heap.size, 1, none⟩ = some (.slice a L.length ca)) := Lib.hid fun V hv => ⟨((hP.keep hv).cell 0).trans rfl, ((hP.keep hv).cell 1).trans rfl⟩
 have HPL := Lib.hid (fun V (hv : Below W1.heap.size W1 V) => placeS_is L hu (by omega) k a ca V hl ((hr.keep HBB.out).keep hv))
 have HCN := Lib.hid (fun V (hv : Below W1.heap.size W1 V) => clnS_is (L := L) a ca V ((hr.keep HBB.out).keep hv) (by omega))
 unfold ClnPost at HCN
 have HW : Hid (St.wo id k L = if St.hasK id L k = true then L.eraseIdx (St.pos id k L) else L) := Lib.hid rfl
 have HPT := Lib.hid (fun h : St.hasK id L k = true => St.hasK_at hu h)
 obtain ⟨p, hp⟩ : ∃ p, St.pos id k L = p := ⟨_, rfl⟩
 obtain ⟨hb, hhb⟩ : ∃ hb, St.hasK id L k = hb := ⟨_, rfl⟩
 rw [hp, hhb] at HPL HW HPT
 obtain ⟨n, hn⟩ : ∃ n, L.length = n := ⟨_, rfl⟩
 have HN := Lib.hid hn
 rw [hn] at hl h1m HCL HPL HCN HW1 ⊢
 have hmf : ∀ (fn : Fn) (first cap : Array Value) (w : World), (Instr.makeFunc fn first cap).run Tryz.prog w = .ok (.func fn first cap) w := fun _ _ _ _ => rfl
 clear hr hW1 hP hz1 hB1 hu hp hhb hn
 go_enter Tryz.func65, Tryz.ntmps65
 go_upto_region 1 with fail
 rw [HW1.out]
 have hv : Below W1.heap.size W1 W1 := Below.refl _ _
 obtain ⟨r0, r1⟩ := HCL.out _ hv
 go_upto_region 2 with (go_at_call 150; (with_reducible refine (HPL.out _ hv).mono ?_); rintro e wp ⟨rfl, hq⟩; have hv := below_up hv hq; obtain ⟨r0, r1⟩ := HCL.out _ hv)
 cases hb
 ·have hW := HW.out
  rw [if_neg (by decide)] at hW
  have HWL : Hid (St.wo id k L = L) := Lib.hid hW
  clear hW
  go_wp2_with (first
   | (go_at_call 140; (with_reducible refine (HCN.out _ hv).mono ?_); rintro e w4 ⟨g4, c4, rfl, ho4, hq⟩; have HO4 := Lib.hid (ho4.down (Nat.le_trans HZS.out hv.size)); have l1 := ho4.caps.1; have l2 := ho4.caps.2; have HV4 := Lib.hid (below_up HBB.out (below_up hv hq)); clear ho4 hq)
   | (go_at_call 104; (with_reducible refine (clnS_clip _ _ _ _ l1 l2).mono ?_); rintro e wc ⟨rfl, rfl⟩))
  go_ret
  refine ⟨g4, n, by rw [HWL.out, HN.out]; rfl, ?_, HV4.out⟩
  rw [HWL.out, HN.out]
  exact HO4.out.clip
 ·obtain ⟨y, hy, _⟩ := HPT.out rfl
  have hpn : p < n := by rw [← HN.out]; exact (List.getElem?_eq_some_iff.1 hy).1
  obtain ⟨m, rfl⟩ : ∃ m, n = m + 1 := ⟨n - 1, by omega⟩
  have hW := HW.out
  rw [if_pos rfl] at hW
  have HWL : Hid (St.wo id k L = L.eraseIdx p) := Lib.hid hW
  have HWN : Hid ((L.eraseIdx p).length = m) := Lib.hid (by rw [List.length_eraseIdx_of_lt (by rw [HN.out]; exact hpn), HN.out]; rfl)
  clear hW hy
  have hp0 : (0 : Int) ≤ (p : Int) := by omega
  have hpw : IntKind.i64.wrap ((p : Int) + 1) = (p : Int) + 1 := by rw [IntKind.wrap_i64]; omega
  go_wp2_with (first
   | (go_at_call 140; (with_reducible refine (HCN.out _ hv).mono ?_); rintro e w4 ⟨g4, c4, rfl, ho4, hq⟩; have ho : OwnV w4 w.heap.size 9 1 (.slice g4 (m + 1) c4) (m + 1) (St.eS.flat L) := ho4.down (Nat.le_trans HZS.out hv.size); have HV4 := Lib.hid (below_up HBB.out (below_up hv hq)); obtain ⟨g, hg, hc⟩ : ∃ g, g4 = some ⟨g, 0, none⟩ ∧ OwnC w4 w.heap.size 9 1 g (m + 1) c4 (St.eS.flat L) := (by (rcases ho with ⟨_, h0, _⟩ | ⟨g, cap, h0, hc⟩); (exact absurd h0 (by omega)); (cases h0; exact ⟨g, rfl, hc⟩)); subst hg; have HGL := Lib.hid hc.lt.1; have HDL := Lib.hid (sr_del w.heap.size g m c4 p (St.eS.flat L) w4 hc (by omega) (by omega) (Enc.flat_one St.eS L)); rw [flat_delS] at HDL; clear ho4 hq ho hc)
   | (go_at_call 155; (with_reducible refine HDL.out.mono ?_); rintro e w8 ⟨rfl, hc8, hg8⟩; have HC8 := Lib.hid hc8; have HF := Lib.hid (HV4.out.grown hg8 HV4.out.size (fun b e => by cases e; exact HGL.out)); have l1 : m ≤ c4 := (by obtain ⟨_, _, _, h, _⟩ := HC8.out; exact h); have l2 : c4 ≤ 9223372036854775807 := (by obtain ⟨_, _, _, _, h, _⟩ := HC8.out; exact h); clear hc8 hg8)
   | (go_at_call 104; (with_reducible refine (clnS_clip _ _ _ _ l1 l2).mono ?_); rintro e wc ⟨rfl, rfl⟩))
  go_ret
  refine ⟨some ⟨g, 0, none⟩, m, by rw [HWL.out, HWN.out]; rfl, ?_, HF.out⟩
  rw [HWL.out, HWN.out]
  exact .inr ⟨g, m, rfl, HC8.out.clip⟩
theorem flat_delG (L : List Gon) (p : Nat) : (St.eG.flat L).take (p * 2) ++ (St.eG.flat L).drop ((p + 1) * 2) = St.eG.flat (L.eraseIdx p) := by
 have h1 := Enc.flat_take St.eG L p
 have h2 := Enc.flat_drop St.eG L (p + 1)
 have h3 : St.eG.k = 2 := rfl
 rw [h3] at h1 h2
 rw [h1, h2, ← Enc.flat_append, List.eraseIdx_eq_take_drop_succ]
theorem woG_is (L : List Gon) (hu : St.Up St.gdig L) (h1m : L.length ≤ 900000) (k : ByteArray) (a : Option Addr) (ca : Nat) (w : World) (hl : L.length ≤ ca ∧ ca ≤ 9223372036854775807) (hr : RowE St.eG w a L) :
  Calls Tryz.prog 61 #[.agg #[.func (.func 152) #[] #[], .slice a L.length ca], .string k] w (ClnPost St.eG 112 w (St.wo St.gdig k L)) := by
 obtain ⟨W1, hW1, hP, hz1, hB1⟩ := box w #[.func (.func 152) #[] #[], .slice a L.length ca] 108
 have HW1 := Lib.hid hW1; have HBB := Lib.hid hB1; have HZS : Hid (w.heap.size ≤ W1.heap.size) := Lib.hid hB1.size
 have HCL : Hid (∀ V, Below W1.heap.size W1 V → V.cell? ⟨w.heap.size, 0, none⟩ = some (.func (.func 152) #[] #[]) ∧ V.cell? ⟨w.heap.size, 1, none⟩ = some (.slice a L.length ca)) := Lib.hid fun V hv => ⟨((hP.keep hv).cell 0).trans rfl, ((hP.keep hv).cell 1).trans rfl⟩
 have HPL := Lib.hid (fun V (hv : Below W1.heap.size W1 V) => placeG_is L hu (by omega) k a ca V hl ((hr.keep HBB.out).keep hv))
 have HCN := Lib.hid (fun V (hv : Below W1.heap.size W1 V) => clnG_is (L := L) a ca V ((hr.keep HBB.out).keep hv) (by omega))
 unfold ClnPost at HCN
 have HW : Hid (St.wo St.gdig k L = if St.hasK St.gdig L k = true then L.eraseIdx (St.pos St.gdig k L) else L) := Lib.hid rfl
 have HPT := Lib.hid (fun h : St.hasK St.gdig L k = true => St.hasK_at hu h)
 obtain ⟨p, hp⟩ : ∃ p, St.pos St.gdig k L = p := ⟨_, rfl⟩
 obtain ⟨hb, hhb⟩ : ∃ hb, St.hasK St.gdig L k = hb := ⟨_, rfl⟩
 rw [hp, hhb] at HPL HW HPT
 obtain ⟨n, hn⟩ : ∃ n, L.length = n := ⟨_, rfl⟩
 have HN := Lib.hid hn
 rw [hn] at hl h1m HCL HPL HCN HW1 ⊢
 have hmf : ∀ (fn : Fn) (first cap : Array Value) (w : World), (Instr.makeFunc fn first cap).run Tryz.prog w = .ok (.func fn first cap) w := fun _ _ _ _ => rfl
 clear hr hW1 hP hz1 hB1 hu hp hhb hn
 go_enter Tryz.func61, Tryz.ntmps61
 go_upto_region 1 with fail
 rw [HW1.out]
 have hv : Below W1.heap.size W1 W1 := Below.refl _ _
 obtain ⟨r0, r1⟩ := HCL.out _ hv
 go_upto_region 2 with (go_at_call 153; (with_reducible refine (HPL.out _ hv).mono ?_); rintro e wp ⟨rfl, hq⟩; have hv := below_up hv hq; obtain ⟨r0, r1⟩ := HCL.out _ hv)
 cases hb
 ·have hW := HW.out
  rw [if_neg (by decide)] at hW
  have HWL : Hid (St.wo St.gdig k L = L) := Lib.hid hW
  clear hW
  go_wp2_with (first
   | (go_at_call 141; (with_reducible refine (HCN.out _ hv).mono ?_); rintro e w4 ⟨g4, c4, rfl, ho4, hq⟩; have HO4 := Lib.hid (ho4.down (Nat.le_trans HZS.out hv.size)); have l1 := ho4.caps.1; have l2 := ho4.caps.2; have HV4 := Lib.hid (below_up HBB.out (below_up hv hq)); clear ho4 hq)
   | (go_at_call 67; (with_reducible refine (clnG_clip _ _ _ _ l1 l2).mono ?_); rintro e wc ⟨rfl, rfl⟩))
  go_ret
  refine ⟨g4, n, by rw [HWL.out, HN.out]; rfl, ?_, HV4.out⟩
  rw [HWL.out, HN.out]
  exact HO4.out.clip
 ·obtain ⟨y, hy, _⟩ := HPT.out rfl
  have hpn : p < n := by rw [← HN.out]; exact (List.getElem?_eq_some_iff.1 hy).1
  obtain ⟨m, rfl⟩ : ∃ m, n = m + 1 := ⟨n - 1, by omega⟩
  have hW := HW.out
  rw [if_pos rfl] at hW
  have HWL : Hid (St.wo St.gdig k L = L.eraseIdx p) := Lib.hid hW
  have HWN : Hid ((L.eraseIdx p).length = m) := Lib.hid (by rw [List.length_eraseIdx_of_lt (by rw [HN.out]; exact hpn), HN.out]; rfl)
  clear hW hy
  have hp0 : (0 : Int) ≤ (p : Int) := by omega
  have hpw : IntKind.i64.wrap ((p : Int) + 1) = (p : Int) + 1 := by rw [IntKind.wrap_i64]; omega
  go_wp2_with (first
   | (go_at_call 141; (with_reducible refine (HCN.out _ hv).mono ?_); rintro e w4 ⟨g4, c4, rfl, ho4, hq⟩; have ho : OwnV w4 w.heap.size 112 2 (.slice g4 (m + 1) c4) (m + 1) (St.eG.flat L) := ho4.down (Nat.le_trans HZS.out hv.size); have HV4 := Lib.hid (below_up HBB.out (below_up hv hq)); obtain ⟨g, hg, hc⟩ : ∃ g, g4 = some ⟨g, 0, none⟩ ∧ OwnC w4 w.heap.size 112 2 g (m + 1) c4 (St.eG.flat L) := (by (rcases ho with ⟨_, h0, _⟩ | ⟨g, cap, h0, hc⟩); (exact absurd h0 (by omega)); (cases h0; exact ⟨g, rfl, hc⟩)); subst hg; have HGL := Lib.hid hc.lt.1; have HDL := Lib.hid (gn_del w.heap.size g m c4 p (St.eG.flat L) w4 hc (by omega) (by omega) (Enc.flat_one St.eG L)); rw [flat_delG] at HDL; clear ho4 hq ho hc)
   | (go_at_call 154; (with_reducible refine HDL.out.mono ?_); rintro e w8 ⟨rfl, hc8, hg8⟩; have HC8 := Lib.hid hc8; have HF := Lib.hid (HV4.out.grown hg8 HV4.out.size (fun b e => by cases e; exact HGL.out)); have l1 : m ≤ c4 := (by obtain ⟨_, _, _, h, _⟩ := HC8.out; exact h); have l2 : c4 ≤ 9223372036854775807 := (by obtain ⟨_, _, _, _, h, _⟩ := HC8.out; exact h); clear hc8 hg8)
   | (go_at_call 67; (with_reducible refine (clnG_clip _ _ _ _ l1 l2).mono ?_); rintro e wc ⟨rfl, rfl⟩))
  go_ret
  refine ⟨some ⟨g, 0, none⟩, m, by rw [HWL.out, HWN.out]; rfl, ?_, HF.out⟩
  rw [HWL.out, HWN.out]
  exact .inr ⟨g, m, rfl, HC8.out.clip⟩
def DelOk {α : Type} (E : Enc α) (val : α → Value) (w0 : World) (g : Nat) (c : FuncId) (lb : Array Value) (p : α → Bool) (L : List α) : Prop :=
 ∀ (V : World) (x : α), x ∈ L → w0.grownBy V (some g) → Calls Tryz.prog c (#[val x] ++ lb) V fun e w' => e = .returned (.bool (p x)) ∧ Below V.heap.size V w'
theorem St.del_start {α : Type} {p : α → Bool} {L : List α} {j : Nat} {x : α} (hx : L[j]? = some x) (hp : p x = true) (hb : ∀ k y, k < j → L[k]? = some y → p y = false) : L.take j = (L.take (j + 1)).filter (fun y => !p y) := by
 rw [List.take_add_one, hx, List.filter_append]
 have h1 : (L.take j).filter (fun y => !p y) = L.take j := List.filter_eq_self.2 (fun y hy => by
  obtain ⟨i, hi⟩ := List.getElem?_of_mem hy
  have hij : i < j := by
   have := (List.getElem?_eq_some_iff.1 hi).1
   rw [List.length_take] at this; omega
  rw [List.getElem?_take_of_lt hij] at hi
  rw [hb i y hij hi]; rfl)
 rw [h1]
 simp [hp]
theorem St.del_none {α : Type} {p : α → Bool} {L : List α} (h : St.idx p L 0 < 0) : L.filter (fun y => !p y) = L :=
 List.filter_eq_self.2 (fun y hy => by rw [St.idx_neg.1 h y hy]; rfl)
theorem St.del_drop {α : Type} {L M : List α} {j : Nat} (h : M.drop j = L.drop j) : M.drop (j + 1) = L.drop (j + 1) := by
 have := congrArg (List.drop 1) h
 rwa [List.drop_drop, List.drop_drop] at this
theorem St.del_at {α : Type} {L M : List α} {j : Nat} (h : M.drop j = L.drop j) : M[j]? = L[j]? := by
 have := congrArg (fun l => l[0]?) h
 simpa using this
theorem St.del_skip {α : Type} {p : α → Bool} {L M : List α} {i j : Nat} {x : α} (h : M.take i = (L.take j).filter (fun y => !p y)) (hx : L[j]? = some x) (hp : p x = true) : M.take i = (L.take (j + 1)).filter (fun y => !p y) := by
 rw [h, List.take_add_one, hx, List.filter_append]
 simp [hp]
theorem St.del_move {α : Type} {p : α → Bool} {L M : List α} {i j : Nat} {x : α} (h : M.take i = (L.take j).filter (fun y => !p y)) (hi : i < M.length) (hx : L[j]? = some x) (hp : p x = false) : (M.set i x).take (i + 1) = (L.take (j + 1)).filter (fun y => !p y) := by
 have h1 : (M.set i x)[i]? = some x := by rw [List.getElem?_set_self hi]
 rw [List.take_add_one, h1, List.take_set_of_le (Nat.le_refl _), h, List.take_add_one, hx, List.filter_append]
 simp [hp]
theorem St.del_far {α : Type} {L M : List α} {i j : Nat} {x : α} (h : M.drop j = L.drop j) (hi : i < j) : (M.set i x).drop (j + 1) = L.drop (j + 1) := by
 rw [List.drop_set_of_lt (by omega)]
 exact St.del_drop h


theorem gonF_idx (fn : FuncId) (lb : Array Value) (eg : ∀ args w, (callFunc fn args).run Tryz.prog w = .ok (.enter fn args) w) (p : Gon → Bool) (L : List Gon) (sa : Option Addr) (sc : Nat) (w : World) (hr : RowE St.eG w sa L) (hl : L.length ≤ sc ∧ sc ≤ 9223372036854775807)
  (HD : ∀ (V : World) (x : Gon), x ∈ L → Below w.heap.size w V → Calls Tryz.prog fn (#[.agg #[.string x.dig, .int .i64 x.day]] ++ lb) V fun e w' => e = .returned (.bool (p x)) ∧ Below V.heap.size V w') :
  Calls Tryz.prog 156 #[.slice sa L.length sc, .func (.func fn) #[] lb] w fun e w' => e = .returned (.int .i64 (St.idx p L 0)) ∧ Below w.heap.size w w' := by
 have HR := Lib.hid hr; have HD := Lib.hid HD
 obtain ⟨q, hq⟩ : ∃ q, St.idx p L 0 = q := ⟨_, rfl⟩
 rw [hq]
 have HQ : Hid (St.idx p (L.drop 0) 0 = q) := Lib.hid hq
 obtain ⟨n, hn⟩ : ∃ n, L.length = n := ⟨_, rfl⟩
 have HN := Lib.hid hn
 rw [hn] at hl ⊢
 clear hr hq hn
 go_enter Tryz.func156, Tryz.ntmps156
 go_wp2_with fail
 go_loopg [8] n (fun gk i wr => ∃ j : Nat, j ≤ n ∧ gk = n - j ∧ i = .int .i64 j ∧ St.idx p (L.drop j) j = q ∧ Below w.heap.size w wr)
 case atStart => exact ⟨0, by omega, rfl, rfl, HQ.out, Below.refl _ _⟩
 case round =>
  obtain ⟨j, hj, rfl, rfl, hs, hB⟩ := hrel
  have HSC := Lib.hid hs; clear hs
  by_cases hlt : j < n
  ·obtain ⟨x, hx⟩ : ∃ x, L[j]? = some x := ⟨_, List.getElem?_eq_getElem (by rw [HN.out]; exact hlt)⟩
   obtain ⟨b, off, ha, hb, hcell⟩ := (HR.out.keep hB) (by rw [HN.out]; omega)
   (have c0 : wr.cell? ⟨b, off + j * 2, none⟩ = some (.string x.dig) := hcell j x hx 0 (.string x.dig) rfl) <;> (have c1 : wr.cell? ⟨b, off + j * 2 + 1, none⟩ = some (.int .i64 x.day) := hcell j x hx 1 (.int .i64 x.day) rfl)
   have HX := Lib.hid hx
   have HC := Lib.hid (HD.out wr x (List.mem_of_getElem? hx) hB)
   have hj0 : (0 : Int) ≤ (j : Int) := by omega
   have hj1 : (j : Int) < (n : Int) := by omega
   obtain ⟨bq, hbq⟩ : ∃ bq, p x = bq := ⟨_, rfl⟩
   rw [hbq] at HC
   have HBQ := Lib.hid hbq
   rw [ha]
   cases bq
   ·have HE := Lib.hid (St.idx_next HSC.out HX.out HBQ.out)
    clear hx hbq hcell
    go_wp2_with fail
    refine HC.out.mono ?_
    rintro e w4 ⟨rfl, hB4⟩
    go_wp2_with fail
    rw [← ha]
    go_roundg (n - (j + 1))
    case rel => exact ⟨j + 1, by omega, rfl, by go_num, HE.out, below_up hB hB4⟩
    case measure => omega
   ·have HE := Lib.hid (St.idx_here HSC.out HX.out HBQ.out)
    clear hx hbq hcell
    go_wp2_with fail
    refine HC.out.mono ?_
    rintro e w4 ⟨rfl, hB4⟩
    go_wp2_with fail
    go_ret
    exact ⟨ret_int HE.out, below_up hB hB4⟩
  ·obtain rfl : j = n := by omega
   have HE := HSC.out
   rw [← HN.out] at HE
   have HE2 := Lib.hid (St.idx_end HE)
   clear HE
   go_wp2_with fail
   go_ret
   exact ⟨ret_int HE2.out, hB⟩


theorem gonF_del (fn : FuncId) (lb : Array Value) (eg : ∀ args w, (callFunc fn args).run Tryz.prog w = .ok (.enter fn args) w) (p : Gon → Bool) (B g n cap : Nat) (L : List Gon) (w : World) (h : OwnC w B 112 2 g n cap (St.eG.flat L)) (hn : n ≤ 1000000) (hL : L.length = n) (HD : DelOk St.eG (fun x => .agg #[.string x.dig, .int .i64 x.day]) w g fn lb p L) :
  Calls Tryz.prog 68 #[.slice (some ⟨g, 0, none⟩) n cap, .func (.func fn) #[] lb] w fun e w' => e = .returned (.slice (some ⟨g, 0, none⟩) (L.filter (fun y => !p y)).length cap) ∧ OwnC w' B 112 2 g (L.filter (fun y => !p y)).length cap (St.eG.flat (L.filter (fun y => !p y))) ∧ w.grownBy w' (some g) := by
 have h0 := h
 obtain ⟨cur, hB, hc, hnc, hcm, hcs, htk, hl⟩ := h0
 have hcm2 : cap ≤ 9223372036854775807 := hcm
 have HIX := Lib.hid (gonF_idx fn lb eg p L (some ⟨g, 0, none⟩) cap w (RowE.ofV (E := St.eG) (ca := cap) (.inr ⟨g, cap, by rw [hL], by rw [hL]; exact h⟩)) (by omega) (fun V x hx hb => HD V x hx (grown_below (grown_self w g) hb)))
 rw [hL] at HIX
 have HO := Lib.hid h; have HLN := Lib.hid hL; have HD := Lib.hid HD
 by_cases hneg : St.idx p L 0 < 0
 ·have hfl := St.del_none hneg
  have hi1 : St.idx p L 0 = -1 := St.idx_none (St.idx_neg.1 hneg)
  rw [hi1] at HIX
  rw [hfl]
  clear h hc hcs htk hl hfl hi1 hneg hL
  go_enter Tryz.func68, Tryz.ntmps68
  go_wp2_with (go_at_call 156; (with_reducible refine HIX.out.mono ?_); rintro e w3 ⟨rfl, hB3⟩)
  go_ret
  rw [HLN.out]
  exact ⟨rfl, HO.out.keep hB3, grown_below (grown_self w g) hB3⟩
 ·obtain ⟨j0, x0, hq, hx0, hp0, hbef⟩ := St.idx_some (p := p) (L := L) (i := 0) rfl (by omega)
  have hq : St.idx p L 0 = (j0 : Int) := by rw [hq]; simp
  have hj0n : j0 < n := by rw [← hL]; exact (List.getElem?_eq_some_iff.1 hx0).1
  rw [hq] at HIX
  have HST := Lib.hid (St.del_start hx0 hp0 hbef)
  have hne : ((j0 : Int) == -1) = false := by simp
  clear h hc hcs htk hl hq hneg hL hx0 hp0 hbef
  go_enter Tryz.func68, Tryz.ntmps68
  go_wp2_with (go_at_call 156; (with_reducible refine HIX.out.mono ?_); rintro e w3 ⟨rfl, hB3⟩)
  go_loopg [5, 6] (n - (j0 + 1)) (fun gk iv jv wr => ∃ (i j : Nat) (M : List Gon), iv = .int .i64 i ∧ jv = .int .i64 j ∧ i < j ∧ j ≤ n ∧ gk = n - j ∧ M.length = n ∧ M.take i = (L.take j).filter (fun y => !p y) ∧ M.drop j = L.drop j ∧ OwnC wr B 112 2 g n cap (St.eG.flat M) ∧ w.grownBy wr (some g))
  case atStart => exact ⟨j0, j0 + 1, L, rfl, by go_num, by omega, by omega, by omega, HLN.out, HST.out, rfl, HO.out.keep hB3, grown_below (grown_self w g) hB3⟩
  case round =>
   obtain ⟨i, j, M, rfl, rfl, hij, hjn, rfl, hM, htk, hdr, hown, hgw⟩ := hrel
   have HML := Lib.hid hM; have HTK := Lib.hid htk; have HDR := Lib.hid hdr; have HOW := Lib.hid hown; have HGW := Lib.hid hgw
   have hlt0 := hown.lt
   clear hM htk hdr hgw
   by_cases hlt : j < n
   ·obtain ⟨x, hx⟩ : ∃ x, M[j]? = some x := ⟨_, List.getElem?_eq_getElem (by rw [HML.out]; exact hlt)⟩
    have hxL : L[j]? = some x := by rw [← St.del_at HDR.out]; exact hx
    have HXL := Lib.hid hxL
    have hj0 : (0 : Int) ≤ (j : Int) := by omega
    have hj1 : (j : Int) < (n : Int) := by omega
    have hi0 : (0 : Int) ≤ (i : Int) := by omega
    have hi1 : (i : Int) < (n : Int) := by omega
    have HMM := Lib.hid (List.mem_of_getElem? hxL)
    have c0 : wr.cell? ⟨g, j * 2, none⟩ = some (.string x.dig) := (hown.cellAt (j * 2) (by omega)).trans (by have := Enc.flat_get St.eG M j x hx 0 (by decide); simpa [St.eG] using this)
    have c1 : wr.cell? ⟨g, j * 2 + 1, none⟩ = some (.int .i64 x.day) := (hown.cellAt (j * 2 + 1) (by omega)).trans (by have := Enc.flat_get St.eG M j x hx 1 (by decide); simpa [St.eG] using this)
    obtain ⟨W3, hW3, hX3, hz3, hB3⟩ := box wr #[.string x.dig, .int .i64 x.day] 112
    have HW3 := Lib.hid hW3
    have HOW3 := Lib.hid (HOW.out.keep hB3)
    have HGW3 := Lib.hid (grown_below HGW.out hB3)
    have e0 : W3.cell? ⟨wr.heap.size, 0, none⟩ = some (.string x.dig) := (hX3.cell 0).trans rfl
    have e1 : W3.cell? ⟨wr.heap.size, 1, none⟩ = some (.int .i64 x.day) := (hX3.cell 1).trans rfl
    have HX : Hid (∀ V, Below W3.heap.size W3 V → V.cell? ⟨wr.heap.size, 0, none⟩ = some (.string x.dig) ∧ V.cell? ⟨wr.heap.size, 1, none⟩ = some (.int .i64 x.day)) := Lib.hid fun V hv => ⟨((hX3.keep hv).cell 0).trans rfl, ((hX3.keep hv).cell 1).trans rfl⟩
    have HC := Lib.hid (HD.out W3 x HMM.out HGW3.out)
    clear hx hxL hown hW3 hX3 hz3 hB3
    obtain ⟨bq, hbq⟩ : ∃ bq, p x = bq := ⟨_, rfl⟩
    rw [hbq] at HC
    have HBQ := Lib.hid hbq
    clear hbq
    cases bq
    ·go_upto_region 8 with fail
     rw [HW3.out]
     go_wp2_with fail
     refine HC.out.mono ?_
     rintro e w4 ⟨rfl, hB4⟩
     have how4 := HOW3.out.keep hB4
     obtain ⟨cur4, _, hc4, _⟩ := id how4
     have hfz := fun o => frozen_of hc4 o
     have hce : ∀ k, k < 2 → ∃ v, w4.cell? ⟨g, i * 2 + k, none⟩ = some v := fun k hk => by
      have := how4.cellAt (i * 2 + k) (by omega)
      exact ⟨_, this.trans (List.getElem?_eq_getElem (by rw [St.eG.flat_len, HML.out]; simp [St.eG]; omega))⟩
     obtain ⟨v0, hv0⟩ := hce 0 (by omega)
     have hv0 : w4.cell? ⟨g, i * 2, none⟩ = some v0 := hv0
     have hfz0 := hfz (i * 2)
     have how5 := how4.setCell (p := i * 2) (by omega) (.string x.dig)
     have how6 := how5.setCell (p := i * 2 + 1) (by omega) (.int .i64 x.day)
     have hv1 : ∃ v, (w4.setCell ⟨g, i * 2, none⟩ (.string x.dig)).cell? ⟨g, i * 2 + 1, none⟩ = some v := by
      have := how5.cellAt (i * 2 + 1) (by omega)
      exact ⟨_, this.trans (List.getElem?_eq_getElem (by rw [List.length_set, St.eG.flat_len, HML.out]; simp [St.eG]; omega))⟩
     obtain ⟨v1, hv1⟩ := hv1
     obtain ⟨cur5, _, hc5, _⟩ := id how5
     have hfz1 := frozen_of hc5 (i * 2 + 1)
     obtain ⟨x0, x1⟩ := HX.out _ hB4
     go_wp2_with fail
     go_roundg (n - (j + 1))
     case rel =>
      refine ⟨i + 1, j + 1, M.set i x, by go_num, by go_num, by omega, by omega, rfl, by rw [List.length_set]; exact HML.out, St.del_move HTK.out (by rw [HML.out]; omega) HXL.out HBQ.out, St.del_far HDR.out hij, ?_, ?_⟩
      ·have h1 : M[i]? = some (M[i]'(by rw [HML.out]; omega)) := List.getElem?_eq_getElem _
       generalize (M[i]'(by rw [HML.out]; omega)) = y at h1
       have h3 : St.eG.flat (M.set i ⟨x.dig, y.day⟩) = (St.eG.flat M).set (i * 2) (.string x.dig) := Enc.flat_set1 St.eG (.string x.dig) 0 (by decide) y ⟨x.dig, y.day⟩ rfl M i h1
       have h4 : St.eG.flat ((M.set i ⟨x.dig, y.day⟩).set i x) = (St.eG.flat (M.set i ⟨x.dig, y.day⟩)).set (i * 2 + 1) (.int .i64 x.day) := Enc.flat_set1 St.eG (.int .i64 x.day) 1 (by decide) ⟨x.dig, y.day⟩ x rfl _ i (by rw [List.getElem?_set_self (by rw [HML.out]; omega)])
       rw [List.set_set, h3] at h4
       rw [h4]; exact how6
      ·exact grown_set (grown_set (grown_below HGW3.out hB4) _ _) _ _
     case measure => omega
    ·go_upto_region 8 with fail
     rw [HW3.out]
     go_wp2_with fail
     refine HC.out.mono ?_
     rintro e w4 ⟨rfl, hB4⟩
     go_wp2_with fail
     go_roundg (n - (j + 1))
     case rel => exact ⟨i, j + 1, M, rfl, by go_num, by omega, by omega, rfl, HML.out, St.del_skip HTK.out HXL.out HBQ.out, St.del_drop HDR.out, HOW3.out.keep hB4, grown_below HGW3.out hB4⟩
     case measure => omega
   ·obtain rfl : j = n := by omega
    have hjn1 : ¬ ((j : Int) < (j : Int)) := by omega
    have hf : M.take i = L.filter (fun y => !p y) := by
     have h := HTK.out
     rw [← HLN.out, List.take_length] at h
     exact h
    have hfl : (L.filter (fun y => !p y)).length = i := by rw [← hf, List.length_take, HML.out]; omega
    obtain ⟨w5, hr5, ⟨zs, ho5⟩, hg5⟩ := own_clear (P := Tryz.prog) hown 26 Tryz.underlying26 (.agg #[.string ByteArray.empty, .int .i64 0]) (fun w => by kernel_rfl) rfl (by decide) (i * 2) (j - i) (by omega) (by omega)
    try simp only [Nat.mul_one] at hr5
    have hfm : (St.eG.flat M).take (i * 2) = St.eG.flat (M.take i) := Enc.flat_take St.eG M i
    have hfm2 : (St.eG.flat M).length = j * 2 := by rw [St.eG.flat_len, HML.out]; rfl
    have ho6 := own_less ho5 (m := i) (by omega)
    rw [List.take_left' (by rw [List.length_take, hfm2]; omega), hfm, hf] at ho6
    have HO6 := Lib.hid ho6; have HG6 := Lib.hid (HGW.out.trans hg5); have HFL := Lib.hid hfl
    have hb5 : ¬ cap = i := by omega
    have hi0 : (0 : Int) ≤ (i : Int) := by omega
    have hi1 : (i : Int) ≤ (j : Int) := by omega
    clear ho5 ho6 hg5 hown hfm hfm2 hf hfl
    go_wp2_with (at_builtin; refine Lib.wpList_clear_run _ rfl _ _ rfl _ rfl (hr5 _ _) ?_)
    go_ret
    rw [HFL.out]
    exact ⟨rfl, HO6.out, HG6.out⟩
def StoOk (w : World) (t : Sto) (e : Ending) (w' : World) : Prop := ∃ a' : StA, e = .returned (.tuple #[.agg #[.int .i64 t.least, .int .i64 t.wait, .slice a'.ta t.tiers.length a'.tc, .slice a'.fa t.files.length a'.fc, .slice a'.ca t.copies.length a'.cc, .slice a'.ha t.held.length a'.hc, .slice a'.ba t.bin.length a'.bc], .int .i64 0]) ∧ StIn w' t a' ∧ Below w.heap.size w w'
def StoErr (w : World) (q : Int) (e : Ending) (w' : World) : Prop := e = .returned (.tuple #[.agg #[.int .i64 0, .int .i64 0, .slice none 0 0, .slice none 0 0, .slice none 0 0, .slice none 0 0, .slice none 0 0], .int .i64 q]) ∧ Below w.heap.size w w'
theorem StIn.two {w : World} {s : Sto} {a : StA} (h : StIn w s a) {H : List ByteArray} {B : List Gon} {ga gb : Option Addr} {gc gd : Nat} (h1 : RowE St.eS w ga H) (h2 : H.length ≤ gc ∧ gc ≤ 9223372036854775807) (h3 : RowE St.eG w gb B) (h4 : B.length ≤ gd ∧ gd ≤ 9223372036854775807) (h5 : ∀ d ∈ H, d.size ≤ 9223372036854775807) (h6 : ∀ g ∈ B, g.dig.size ≤ 9223372036854775807) :
  StIn w { s with held := H, bin := B } ⟨a.ta, a.tc, a.fa, a.fc, a.ca, a.cc, ga, gc, gb, gd⟩ :=
 ⟨h.ti, h.fi, h.co, h1, h3, h.tl, h.fl, h.cl, h2, h4, h.tz, h.fz, h.cz, h5, h6⟩
theorem releaseS_err (s : Sto) (a : StA) (d : ByteArray) (day : Int) (w : World) (hI : StIn w s a) (he : St.err s ≠ 0) : Calls Tryz.prog 12 #[.agg #[.int .i64 s.least, .int .i64 s.wait, .slice a.ta s.tiers.length a.tc, .slice a.fa s.files.length a.fc, .slice a.ca s.copies.length a.cc, .slice a.ha s.held.length a.hc, .slice a.ba s.bin.length a.bc], .string d, .int .i64 day] w (StoErr w (St.err s)) := by
 obtain ⟨W1, hW1, hP, hz1, hB1⟩ := box w #[.int .i64 s.least, .int .i64 s.wait, .slice a.ta s.tiers.length a.tc, .slice a.fa s.files.length a.fc, .slice a.ca s.copies.length a.cc, .slice a.ha s.held.length a.hc, .slice a.ba s.bin.length a.bc] 28
 obtain ⟨W2, hW2, hQ, hz2, hB2⟩ := box W1 #[.int .i64 0, .int .i64 0, .slice none 0 0, .slice none 0 0, .slice none 0 0, .slice none 0 0, .slice none 0 0] 28
 rw [hz1] at hQ hz2
 have hP := hP.keep hB2
 have hBB := below_up hB1 hB2
 have HW1 := Lib.hid hW1; have HW2 := Lib.hid hW2; have HP := Lib.hid hP; have HQ := Lib.hid hQ; have HBB := Lib.hid hBB; have HZ2 := Lib.hid hz2
 have HI2 := Lib.hid (hI.keep hBB)
 obtain ⟨q0, q1, q2, q3, q4, q5, q6⟩ := hP.seven
 have HCK := Lib.hid (check_is s a W2 HI2.out)
 have HSZ := Lib.hid hI.sz
 clear hI hW1 hW2 hP hQ hz1 hz2 hB1 hB2 hBB
 have hq1 : (St.err s != 0) = true := by simpa using he
 generalize St.err s = q at *
 clear he
 go_enter Tryz.func12, Tryz.ntmps12
 go_upto_region 1 with fail
 rw [HW1.out, HW2.out]
 go_upto_region 3 with (go_at_call 32; (with_reducible refine HCK.out.mono ?_); rintro e w3 ⟨rfl, hB3⟩)
 have hQ3 := HQ.out.keep hB3
 have hB03 := below_up HBB.out hB3
 have hs2 := HZ2.out
 clear q0 q1 q2 q3 q4 q5 q6
 go_wp2_with (refine wpList_store_row rfl 28 _ _ rfl (w.heap.size + 1) #[.int .i64 0, .int .i64 0, .slice none 0 0, .slice none 0 0, .slice none 0 0, .slice none 0 0, .slice none 0 0] rfl rfl 28 _ hQ3 infoSto rfl (by simp [Value.oneCell']) ?_)
 obtain ⟨g0, g1, g2, g3, g4, g5, g6⟩ := (Blk.setRowAt (hQ3) #[.int .i64 0, .int .i64 0, .slice none 0 0, .slice none 0 0, .slice none 0 0, .slice none 0 0, .slice none 0 0]).seven
 refine bodyPost_ret (v := .tuple #[.agg #[.int .i64 0, .int .i64 0, .slice none 0 0, .slice none 0 0, .slice none 0 0, .slice none 0 0, .slice none 0 0], .int .i64 (q)]) (by simp [results, Tryz.results12, go_sem, g0, g1, g2, g3, g4, g5, g6]) rfl ⟨rfl, below_setRow (hB03) (by omega) _⟩
theorem St.dsz {s : Sto} (r : St.Right s) {d : ByteArray} (h : St.kindOf s.files d = 1) : d.size = 16 := by
 obtain ⟨f, hf, _, hd, _⟩ := St.kind_mem h
 exact St.file16 r hf
theorem releaseS_none (s : Sto) (a : StA) (d : ByteArray) (day : Int) (w : World) (hI : StIn w s a) (r : St.Right s) (hd : St.hasK id s.held d = false) : Calls Tryz.prog 12 #[.agg #[.int .i64 s.least, .int .i64 s.wait, .slice a.ta s.tiers.length a.tc, .slice a.fa s.files.length a.fc, .slice a.ca s.copies.length a.cc, .slice a.ha s.held.length a.hc, .slice a.ba s.bin.length a.bc], .string d, .int .i64 day] w (StoErr w 7) := by
 obtain ⟨W1, hW1, hP, hz1, hB1⟩ := box w #[.int .i64 s.least, .int .i64 s.wait, .slice a.ta s.tiers.length a.tc, .slice a.fa s.files.length a.fc, .slice a.ca s.copies.length a.cc, .slice a.ha s.held.length a.hc, .slice a.ba s.bin.length a.bc] 28
 obtain ⟨W2, hW2, hQ, hz2, hB2⟩ := box W1 #[.int .i64 0, .int .i64 0, .slice none 0 0, .slice none 0 0, .slice none 0 0, .slice none 0 0, .slice none 0 0] 28
 rw [hz1] at hQ hz2
 have hP := hP.keep hB2
 have hBB := below_up hB1 hB2
 have HW1 := Lib.hid hW1; have HW2 := Lib.hid hW2; have HP := Lib.hid hP; have HQ := Lib.hid hQ; have HBB := Lib.hid hBB; have HZ2 := Lib.hid hz2
 have HI2 := Lib.hid (hI.keep hBB)
 obtain ⟨q0, q1, q2, q3, q4, q5, q6⟩ := hP.seven
 have HCK := Lib.hid (check_is s a W2 HI2.out)
 have HSZ := Lib.hid hI.sz
 clear hI hW1 hW2 hP hQ hz1 hz2 hB1 hB2 hBB
 rw [St.err_iff.2 r] at HCK
 obtain ⟨_, y1, y2, y3, y4, y5⟩ := St.sizes_iff.1 r.sizes
 have HHD := Lib.hid (fun V => held_is s a V)
 have HHS := Lib.hid (fun V (hv : Below W2.heap.size W2 V) => hasS_is s.held r.hup (by omega) d a.ha a.hc V (HI2.out.keep hv).hl (HI2.out.keep hv).he)
 rw [show St.hasS s.held d = false from hd] at HHS
 clear r hd y1 y2 y3 y4 y5
 go_enter Tryz.func12, Tryz.ntmps12
 go_upto_region 1 with fail
 rw [HW1.out, HW2.out]
 go_upto_region 5 with (first
  | (go_at_call 32; (with_reducible refine HCK.out.mono ?_); rintro e w3 ⟨rfl, hv⟩; obtain ⟨q0, q1, q2, q3, q4, q5, q6⟩ := (HP.out.keep hv).seven)
  | (go_at_call 58; (with_reducible refine (HHD.out _).mono ?_); rintro e w4 ⟨rfl, hq⟩; have hv := below_up hv hq)
  | (go_at_call 63; (with_reducible refine (HHS.out _ hv).mono ?_); rintro e w5 ⟨rfl, hq⟩; have hv := below_up hv hq))
 have hQ3 := HQ.out.keep hv
 have hB03 := below_up HBB.out hv
 have hs2 := HZ2.out
 clear q0 q1 q2 q3 q4 q5 q6
 go_wp2_with (refine wpList_store_row rfl 28 _ _ rfl (w.heap.size + 1) #[.int .i64 0, .int .i64 0, .slice none 0 0, .slice none 0 0, .slice none 0 0, .slice none 0 0, .slice none 0 0] rfl rfl 28 _ hQ3 infoSto rfl (by simp [Value.oneCell']) ?_)
 obtain ⟨g0, g1, g2, g3, g4, g5, g6⟩ := (Blk.setRowAt (hQ3) #[.int .i64 0, .int .i64 0, .slice none 0 0, .slice none 0 0, .slice none 0 0, .slice none 0 0, .slice none 0 0]).seven
 refine bodyPost_ret (v := .tuple #[.agg #[.int .i64 0, .int .i64 0, .slice none 0 0, .slice none 0 0, .slice none 0 0, .slice none 0 0, .slice none 0 0], .int .i64 (7)]) (by simp [results, Tryz.results12, go_sem, g0, g1, g2, g3, g4, g5, g6]) rfl ⟨rfl, below_setRow (hB03) (by omega) _⟩
theorem releaseS_range (s : Sto) (a : StA) (d : ByteArray) (day : Int) (w : World) (hI : StIn w s a) (r : St.Right s) (hd : St.hasK id s.held d = true) (hday : St.inB day 0 73048 = false) : Calls Tryz.prog 12 #[.agg #[.int .i64 s.least, .int .i64 s.wait, .slice a.ta s.tiers.length a.tc, .slice a.fa s.files.length a.fc, .slice a.ca s.copies.length a.cc, .slice a.ha s.held.length a.hc, .slice a.ba s.bin.length a.bc], .string d, .int .i64 day] w (StoErr w 2) := by
 obtain ⟨W1, hW1, hP, hz1, hB1⟩ := box w #[.int .i64 s.least, .int .i64 s.wait, .slice a.ta s.tiers.length a.tc, .slice a.fa s.files.length a.fc, .slice a.ca s.copies.length a.cc, .slice a.ha s.held.length a.hc, .slice a.ba s.bin.length a.bc] 28
 obtain ⟨W2, hW2, hQ, hz2, hB2⟩ := box W1 #[.int .i64 0, .int .i64 0, .slice none 0 0, .slice none 0 0, .slice none 0 0, .slice none 0 0, .slice none 0 0] 28
 rw [hz1] at hQ hz2
 have hP := hP.keep hB2
 have hBB := below_up hB1 hB2
 have HW1 := Lib.hid hW1; have HW2 := Lib.hid hW2; have HP := Lib.hid hP; have HQ := Lib.hid hQ; have HBB := Lib.hid hBB; have HZ2 := Lib.hid hz2
 have HI2 := Lib.hid (hI.keep hBB)
 obtain ⟨q0, q1, q2, q3, q4, q5, q6⟩ := hP.seven
 have HCK := Lib.hid (check_is s a W2 HI2.out)
 have HSZ := Lib.hid hI.sz
 clear hI hW1 hW2 hP hQ hz1 hz2 hB1 hB2 hBB
 rw [St.err_iff.2 r] at HCK
 obtain ⟨_, y1, y2, y3, y4, y5⟩ := St.sizes_iff.1 r.sizes
 have HHD := Lib.hid (fun V => held_is s a V)
 have HHS := Lib.hid (fun V (hv : Below W2.heap.size W2 V) => hasS_is s.held r.hup (by omega) d a.ha a.hc V (HI2.out.keep hv).hl (HI2.out.keep hv).he)
 rw [show St.hasS s.held d = true from hd] at HHS
 have HDY := Lib.hid (fun V => isDayS_is day V)
 rw [hday] at HDY
 clear r hd hday y1 y2 y3 y4 y5
 go_enter Tryz.func12, Tryz.ntmps12
 go_upto_region 1 with fail
 rw [HW1.out, HW2.out]
 go_upto_region 7 with (first
  | (go_at_call 32; (with_reducible refine HCK.out.mono ?_); rintro e w3 ⟨rfl, hv⟩; obtain ⟨q0, q1, q2, q3, q4, q5, q6⟩ := (HP.out.keep hv).seven)
  | (go_at_call 58; (with_reducible refine (HHD.out _).mono ?_); rintro e w4 ⟨rfl, hq⟩; have hv := below_up hv hq)
  | (go_at_call 63; (with_reducible refine (HHS.out _ hv).mono ?_); rintro e w5 ⟨rfl, hq⟩; have hv := below_up hv hq)
  | (go_at_call 64; (with_reducible refine (HDY.out _).mono ?_); rintro e w6 ⟨rfl, rfl⟩))
 have hQ3 := HQ.out.keep hv
 have hB03 := below_up HBB.out hv
 have hs2 := HZ2.out
 clear q0 q1 q2 q3 q4 q5 q6
 go_wp2_with (refine wpList_store_row rfl 28 _ _ rfl (w.heap.size + 1) #[.int .i64 0, .int .i64 0, .slice none 0 0, .slice none 0 0, .slice none 0 0, .slice none 0 0, .slice none 0 0] rfl rfl 28 _ hQ3 infoSto rfl (by simp [Value.oneCell']) ?_)
 obtain ⟨g0, g1, g2, g3, g4, g5, g6⟩ := (Blk.setRowAt (hQ3) #[.int .i64 0, .int .i64 0, .slice none 0 0, .slice none 0 0, .slice none 0 0, .slice none 0 0, .slice none 0 0]).seven
 refine bodyPost_ret (v := .tuple #[.agg #[.int .i64 0, .int .i64 0, .slice none 0 0, .slice none 0 0, .slice none 0 0, .slice none 0 0, .slice none 0 0], .int .i64 (2)]) (by simp [results, Tryz.results12, go_sem, g0, g1, g2, g3, g4, g5, g6]) rfl ⟨rfl, below_setRow (hB03) (by omega) _⟩
theorem StOwn.cellB {w : World} {B b : Nat} {s : Sto} {a : StA} (h : StOwn w B s a) (hb : b < B) (i : Nat) (u : Value) : StOwn (w.setCell ⟨b, i, none⟩ u) B s a :=
 ⟨h.ti.next (Below.refl _ _) hb, h.fi.next (Below.refl _ _) hb, h.co.next (Below.refl _ _) hb, h.he.next (Below.refl _ _) hb, h.bi.next (Below.refl _ _) hb⟩
theorem releaseS_ok (s : Sto) (a : StA) (d : ByteArray) (day : Int) (w : World) (hI : StIn w s a) (r : St.Right s) (hd : St.hasK id s.held d = true) (hday : St.inB day 0 73048 = true) : Calls Tryz.prog 12 #[.agg #[.int .i64 s.least, .int .i64 s.wait, .slice a.ta s.tiers.length a.tc, .slice a.fa s.files.length a.fc, .slice a.ca s.copies.length a.cc, .slice a.ha s.held.length a.hc, .slice a.ba s.bin.length a.bc], .string d, .int .i64 day] w (StoOk w (St.release s d day)) := by
 obtain ⟨W1, hW1, hP, hz1, hB1⟩ := box w #[.int .i64 s.least, .int .i64 s.wait, .slice a.ta s.tiers.length a.tc, .slice a.fa s.files.length a.fc, .slice a.ca s.copies.length a.cc, .slice a.ha s.held.length a.hc, .slice a.ba s.bin.length a.bc] 28
 obtain ⟨W2, hW2, hQ, hz2, hB2⟩ := box W1 #[.int .i64 0, .int .i64 0, .slice none 0 0, .slice none 0 0, .slice none 0 0, .slice none 0 0, .slice none 0 0] 28
 rw [hz1] at hQ hz2
 have hP := hP.keep hB2
 have hBB := below_up hB1 hB2
 have HW1 := Lib.hid hW1; have HW2 := Lib.hid hW2; have HP := Lib.hid hP; have HQ := Lib.hid hQ; have HBB := Lib.hid hBB; have HZ2 := Lib.hid hz2
 have HI2 := Lib.hid (hI.keep hBB)
 obtain ⟨q0, q1, q2, q3, q4, q5, q6⟩ := hP.seven
 have HCK := Lib.hid (check_is s a W2 HI2.out)
 have HSZ := Lib.hid hI.sz
 clear hI hW1 hW2 hP hQ hz1 hz2 hB1 hB2 hBB
 rw [St.err_iff.2 r] at HCK
 obtain ⟨_, y1, y2, y3, y4, y5⟩ := St.sizes_iff.1 r.sizes
 have HHD0 := Lib.hid (fun V => held_is s a V)
 have HHS := Lib.hid (fun V (hv : Below W2.heap.size W2 V) => hasS_is s.held r.hup (by omega) d a.ha a.hc V (HI2.out.keep hv).hl (HI2.out.keep hv).he)
 rw [show St.hasS s.held d = true from hd] at HHS
 have HDY := Lib.hid (fun V => isDayS_is day V)
 rw [hday] at HDY
 have HCP := Lib.hid (fun V (hv : Below W2.heap.size W2 V) => copyStore_is s a V (HI2.out.keep hv) ⟨y1, y2, y3, y4, y5⟩)
 unfold CpyPost at HCP
 have HWO := Lib.hid (fun (b : StA) V (hI : StIn V s b) => woS_is s.held r.hup (by omega) d b.ha b.hc V hI.hl hI.he)
 have HWT := Lib.hid (fun (b : StA) V (hI : StIn V s b) => withG_is s.bin r.bup (by omega) ⟨d, day⟩ b.ba b.bc V hI.bl hI.bi)
 unfold ClnPost at HWO HWT
 have rr := St.right_release r hd hday
 have HS5 : Hid (∀ x ∈ St.wo id d s.held, x.size ≤ 9223372036854775807) := Lib.hid fun x hx => by have := St.dsz rr (rr.held x hx); omega
 have HS6 : Hid (∀ g ∈ St.wth St.gdig ⟨d, day⟩ s.bin, g.dig.size ≤ 9223372036854775807) := Lib.hid fun g hg => by have := St.dsz rr (rr.bin g hg).1; omega
 have HRE : Hid (St.release s d day = { s with held := St.wo id d s.held, bin := St.wth St.gdig ⟨d, day⟩ s.bin }) := Lib.hid rfl
 generalize St.wo id d s.held = HH at *
 generalize St.wth St.gdig ⟨d, day⟩ s.bin = BB at *
 clear r rr hd hday y1 y2 y3 y4 y5
 go_enter Tryz.func12, Tryz.ntmps12
 go_upto_region 1 with fail
 rw [HW1.out, HW2.out]
 go_upto_region 9 with (first
  | (go_at_call 32; (with_reducible refine HCK.out.mono ?_); rintro e w3 ⟨rfl, hv⟩; obtain ⟨q0, q1, q2, q3, q4, q5, q6⟩ := (HP.out.keep hv).seven)
  | (go_at_call 58; (with_reducible refine (HHD0.out _).mono ?_); rintro e w4 ⟨rfl, hq⟩; have hv := below_up hv hq)
  | (go_at_call 63; (with_reducible refine (HHS.out _ hv).mono ?_); rintro e w7 ⟨rfl, hq⟩; have hv := below_up hv hq; obtain ⟨q0, q1, q2, q3, q4, q5, q6⟩ := (HP.out.keep hv).seven)
  | (go_at_call 64; (with_reducible refine (HDY.out _).mono ?_); rintro e w6 ⟨rfl, rfl⟩)
  | (go_at_call 51; (with_reducible refine (HCP.out _ hv).mono ?_); rintro e w8 ⟨b, rfl, hOwn, hB8⟩)
  | (refine wpList_store_row rfl 28 _ _ rfl w.heap.size #[.int .i64 s.least, .int .i64 s.wait, .slice b.ta s.tiers.length b.tc, .slice b.fa s.files.length b.fc, .slice b.ca s.copies.length b.cc, .slice b.ha s.held.length b.hc, .slice b.ba s.bin.length b.bc] rfl rfl 28 _ (HP.out.keep (below_up hv hB8)) infoSto rfl (by simp [Value.oneCell']) ?_))
 have hlt4 : w.heap.size + 1 < w7.heap.size := by have := HZ2.out; have := hv.size; omega
 have hv8 := below_up hv hB8
 have hPv := Blk.setRowAt (HP.out.keep hv8) #[.int .i64 s.least, .int .i64 s.wait, .slice b.ta s.tiers.length b.tc, .slice b.fa s.files.length b.fc, .slice b.ca s.copies.length b.cc, .slice b.ha s.held.length b.hc, .slice b.ba s.bin.length b.bc]
 have hQv := (HQ.out.keep hv8).setRowOther (b' := w.heap.size) (by omega) #[.int .i64 s.least, .int .i64 s.wait, .slice b.ta s.tiers.length b.tc, .slice b.fa s.files.length b.fc, .slice b.ca s.copies.length b.cc, .slice b.ha s.held.length b.hc, .slice b.ba s.bin.length b.bc]
 have hBv := below_setRow (below_up HBB.out hv8) (Nat.le_refl w.heap.size) #[.int .i64 s.least, .int .i64 s.wait, .slice b.ta s.tiers.length b.tc, .slice b.fa s.files.length b.fc, .slice b.ca s.copies.length b.cc, .slice b.ha s.held.length b.hc, .slice b.ba s.bin.length b.bc]
 have hOv := hOwn.setRow (b := w.heap.size) (by omega) #[.int .i64 s.least, .int .i64 s.wait, .slice b.ta s.tiers.length b.tc, .slice b.fa s.files.length b.fc, .slice b.ca s.copies.length b.cc, .slice b.ha s.held.length b.hc, .slice b.ba s.bin.length b.bc]
 have hVz : w.heap.size + 2 ≤ (w8.setRow w.heap.size #[.int .i64 s.least, .int .i64 s.wait, .slice b.ta s.tiers.length b.tc, .slice b.fa s.files.length b.fc, .slice b.ca s.copies.length b.cc, .slice b.ha s.held.length b.hc, .slice b.ba s.bin.length b.bc]).heap.size := by have := hB8.size; simp; omega
 obtain ⟨V, hV⟩ : ∃ V, w8.setRow w.heap.size #[.int .i64 s.least, .int .i64 s.wait, .slice b.ta s.tiers.length b.tc, .slice b.fa s.files.length b.fc, .slice b.ca s.copies.length b.cc, .slice b.ha s.held.length b.hc, .slice b.ba s.bin.length b.bc] = V := ⟨_, rfl⟩
 rw [hV] at hPv hQv hBv hOv hVz ⊢
 clear hV q0 q1 q2 q3 q4 q5 q6 hOwn
 have HHD := Lib.hid (fun V => held_is s b V)
 have HBN := Lib.hid (fun V => binRow_is s b V)
 have hPd := hPv.drew; have hQd := hQv.drew; have hBd := hBv.drew
 have hOd := hOv.keep (Below.refl _ _).drew
 have hsz : w.heap.size + 2 ≤ V.drew.heap.size := hVz
 clear hPv hQv hBv hOv hVz hv8 hB8 hv
 have hHeld := hPd.seven
 refine wp_region_until (fun W => W.cell? ⟨w.heap.size, 0, none⟩ = some (.int .i64 s.least) ∧ W.cell? ⟨w.heap.size, 1, none⟩ = some (.int .i64 s.wait) ∧ W.cell? ⟨w.heap.size, 2, none⟩ = some (.slice b.ta s.tiers.length b.tc) ∧ W.cell? ⟨w.heap.size, 3, none⟩ = some (.slice b.fa s.files.length b.fc) ∧ W.cell? ⟨w.heap.size, 4, none⟩ = some (.slice b.ca s.copies.length b.cc) ∧ W.cell? ⟨w.heap.size, 5, none⟩ = some (.slice b.ha s.held.length b.hc) ∧ W.cell? ⟨w.heap.size, 6, none⟩ = some (.slice b.ba s.bin.length b.bc)) 11 (by kernel_rfl) ?_
 refine anyM_take (i := 0) (v := ?_) rfl rfl (by kernel_rfl) (by decide) (by kernel_rfl) (by kernel_rfl) (by kernel_rfl) (fun _ _ _ h => h) (Or.inl ⟨by rfl, ?_⟩) (by rfl) (by assumption) ?_
 rotate_left
 ·(intro w hSw; (try dsimp only at hSw); (try obtain ⟨hs1, hs2, hs3, hs4, hs5, hs6, hs7⟩ := hSw); go_simp; try (with_reducible rfl))
 try go_frame
 refine anyM_take0 (i := 2) (v := ?_) rfl (by decide) (by kernel_rfl) (by kernel_rfl) (by kernel_rfl) (fun _ _ _ h => h) (Or.inl ⟨by rfl, ?_⟩) (fun _ => by assumption) ?_
 rotate_left
 ·(intro w hSw; go_simp; try (with_reducible rfl))
 try go_frame
 refine anyM_take (i := 4) (v := ?_) rfl rfl (by kernel_rfl) (by decide) (by kernel_rfl) (by kernel_rfl) (by kernel_rfl) (fun _ _ _ h => h) (Or.inl ⟨by rfl, ?_⟩) (by rfl) (by assumption) ?_
 rotate_left
 ·(intro w hSw; (try dsimp only at hSw); (try obtain ⟨hs1, hs2, hs3, hs4, hs5, hs6, hs7⟩ := hSw); go_simp; try (with_reducible rfl))
 try go_frame
 refine anyM_take0 (i := 6) (v := ?_) rfl (by decide) (by kernel_rfl) (by kernel_rfl) (by kernel_rfl) (fun _ _ _ h => h) (Or.inl ⟨by rfl, ?_⟩) (fun _ => by assumption) ?_
 rotate_left
 ·(intro w hSw; go_simp; try (with_reducible rfl))
 try go_frame
 refine anyM_take0 (i := 7) (v := ?_) rfl (by decide) (by kernel_rfl) (by kernel_rfl) (by kernel_rfl) (fun _ _ _ h => h) (Or.inl ⟨by rfl, ?_⟩) (fun _ => by assumption) ?_
 rotate_left
 ·(intro w hSw; go_simp; try (with_reducible rfl))
 try go_frame
 refine anyM_take0 (i := 8) (v := ?_) rfl (by decide) (by kernel_rfl) (by kernel_rfl) (by kernel_rfl) (fun _ _ _ h => h) (Or.inl ⟨by rfl, ?_⟩) (fun _ => by assumption) ?_
 rotate_left
 ·(intro w hSw; go_simp; try (with_reducible rfl))
 try go_frame
 refine anyM_ready (rs := [1]) (by kernel_rfl) (by simp) ?_
 refine ReadyM.cons rfl (fun K hK => ?_) ReadyM.nil
 go_simp
 refine (HHD.out _).mono ?_
 rintro e x1 ⟨rfl, hq1⟩
 have hPd := hPd.keep hq1; have hQd := hQd.keep hq1; have hOd := hOd.keep hq1
 have hBd := below_up hBd hq1
 have hsz := Nat.le_trans hsz hq1.size
 have hHeld := hPd.seven
 refine hK.out _ _ (fun _ => hHeld) ?_
 clear hK K
 try go_frame
 refine anyM_ready (rs := [3]) (by kernel_rfl) (by simp) ?_
 refine ReadyM.cons rfl (fun K hK => ?_) ReadyM.nil
 go_simp
 refine (HWO.out b _ (hOd.in_ HSZ.out)).mono ?_
 rintro e x2 ⟨g2, c2, rfl, o2, hq2⟩; have o2 := o2.down hsz
 have hPd := hPd.keep hq2; have hQd := hQd.keep hq2; have hOd := hOd.keep hq2
 have hBd := below_up hBd hq2
 have hsz := Nat.le_trans hsz hq2.size
 have hHeld := hPd.seven
 refine hK.out _ _ (fun _ => hHeld) ?_
 clear hK K
 try go_frame
 refine anyM_take0 (i := 10) (v := ?_) rfl (by decide) (by kernel_rfl) (by kernel_rfl) (by kernel_rfl) (fun _ _ _ h => h) (Or.inl ⟨by rfl, ?_⟩) (fun _ => by assumption) ?_
 rotate_left
 ·(intro w hSw; go_simp; try (with_reducible rfl))
 try go_frame
 refine anyM_ready (rs := [5]) (by kernel_rfl) (by simp) ?_
 refine ReadyM.cons rfl (fun K hK => ?_) ReadyM.nil
 go_simp
 refine (HBN.out _).mono ?_
 rintro e x3 ⟨rfl, hq3⟩
 have hPd := hPd.keep hq3; have hQd := hQd.keep hq3; have hOd := hOd.keep hq3
 have hBd := below_up hBd hq3
 have hsz := Nat.le_trans hsz hq3.size
 have hHeld := hPd.seven
 refine hK.out _ _ (fun _ => hHeld) ?_
 clear hK K
 try go_frame
 refine anyM_ready (rs := [9]) (by kernel_rfl) (by simp) ?_
 refine ReadyM.cons rfl (fun K hK => ?_) ReadyM.nil
 go_simp
 refine (HWT.out b _ (hOd.in_ HSZ.out)).mono ?_
 rintro e x4 ⟨g4, c4, rfl, o4, hq4⟩; have o4 := o4.down hsz
 have hPd := hPd.keep hq4; have hQd := hQd.keep hq4; have hOd := hOd.keep hq4
 have hBd := below_up hBd hq4
 have hsz := Nat.le_trans hsz hq4.size
 have hHeld := hPd.seven
 refine hK.out _ _ (fun _ => hHeld) ?_
 clear hK K
 try go_frame
 have o2 := o2.keep hq3
 have o2 := o2.keep hq4
 clear hHeld
 obtain ⟨y0, y1, y2, y3, y4, y5, y6⟩ := hPd.seven
 have yf := hPd.free
 refine anyM_ready (rs := [11]) (by kernel_rfl) (by simp) ?_
 refine ReadyM.cons rfl (fun K hK => ?_) ReadyM.nil
 go_simp
 refine hK.out _ _ (fun h => absurd h (by simp)) ?_
 clear hK K y0 y1 y2 y3 y4 y5 y6 yf
 try go_frame
 have hPs := hPd.set 5 (.slice g2 HH.length c2)
 have hQs := hQd.setOther (a := ⟨w.heap.size, 5, none⟩) (by simp) (.slice g2 HH.length c2)
 have hBs := hBd.setCell (p := ⟨w.heap.size, 5, none⟩) (by simp) (.slice g2 HH.length c2)
 have hOd := hOd.cellB (b := w.heap.size) (by omega) 5 (.slice g2 HH.length c2)
 have o2 := o2.next (i := 5) (b := w.heap.size) (u := .slice g2 HH.length c2) (Below.refl _ _) (by omega)
 have o4 := o4.next (i := 5) (b := w.heap.size) (u := .slice g2 HH.length c2) (Below.refl _ _) (by omega)
 have hsz := show w.heap.size + 2 ≤ (x4.setCell ⟨w.heap.size, 5, none⟩ (.slice g2 HH.length c2)).heap.size by simp; omega
 generalize x4.setCell ⟨w.heap.size, 5, none⟩ (.slice g2 HH.length c2) = y5 at *
 clear hPd hQd hBd
 have hPd : Blk y5 w.heap.size #[.int .i64 s.least, .int .i64 s.wait, .slice b.ta s.tiers.length b.tc, .slice b.fa s.files.length b.fc, .slice b.ca s.copies.length b.cc, (.slice g2 HH.length c2), (.slice b.ba s.bin.length b.bc)] 28 := hPs
 have hQd := hQs; have hBd := hBs
 clear hPs hQs hBs
 refine anyM_ready (rs := [12]) (by kernel_rfl) (by simp) ?_
 refine ReadyM.cons rfl (fun K hK => ?_) ReadyM.nil
 go_simp
 refine hK.out _ _ (fun h => absurd h (by simp)) ?_
 clear hK K
 try go_frame
 obtain ⟨y0, y1, y2, y3, y4, y5, y6⟩ := hPd.seven
 have yf := hPd.free
 refine anyM_ready (rs := [13]) (by kernel_rfl) (by simp) ?_
 refine ReadyM.cons rfl (fun K hK => ?_) ReadyM.nil
 go_simp
 refine hK.out _ _ (fun h => absurd h (by simp)) ?_
 clear hK K y0 y1 y2 y3 y4 y5 y6 yf
 try go_frame
 have hPs := hPd.set 6 (.slice g4 BB.length c4)
 have hQs := hQd.setOther (a := ⟨w.heap.size, 6, none⟩) (by simp) (.slice g4 BB.length c4)
 have hBs := hBd.setCell (p := ⟨w.heap.size, 6, none⟩) (by simp) (.slice g4 BB.length c4)
 have hOd := hOd.cellB (b := w.heap.size) (by omega) 6 (.slice g4 BB.length c4)
 have o2 := o2.next (i := 6) (b := w.heap.size) (u := .slice g4 BB.length c4) (Below.refl _ _) (by omega)
 have o4 := o4.next (i := 6) (b := w.heap.size) (u := .slice g4 BB.length c4) (Below.refl _ _) (by omega)
 have hsz := show w.heap.size + 2 ≤ (y5.setCell ⟨w.heap.size, 6, none⟩ (.slice g4 BB.length c4)).heap.size by simp; omega
 generalize y5.setCell ⟨w.heap.size, 6, none⟩ (.slice g4 BB.length c4) = y6 at *
 clear hPd hQd hBd
 have hPd : Blk y6 w.heap.size #[.int .i64 s.least, .int .i64 s.wait, .slice b.ta s.tiers.length b.tc, .slice b.fa s.files.length b.fc, .slice b.ca s.copies.length b.cc, (.slice g2 HH.length c2), (.slice g4 BB.length c4)] 28 := hPs
 have hQd := hQs; have hBd := hBs
 clear hPs hQs hBs
 refine anyM_done (by kernel_rfl) ?_ _
 have hI := (hOd.in_ HSZ.out).two (RowE.ofV (E := St.eS) (ca := c2) o2) o2.caps (RowE.ofV (E := St.eG) (ca := c4) o4) o4.caps HS5.out HS6.out
 have hO3 := hOd.setRow (b := w.heap.size + 1) (by omega) #[.int .i64 s.least, .int .i64 s.wait, .slice b.ta s.tiers.length b.tc, .slice b.fa s.files.length b.fc, .slice b.ca s.copies.length b.cc, (.slice g2 HH.length c2), (.slice g4 BB.length c4)]
 have o2' := o2.setRow (b := w.heap.size + 1) (by omega) #[.int .i64 s.least, .int .i64 s.wait, .slice b.ta s.tiers.length b.tc, .slice b.fa s.files.length b.fc, .slice b.ca s.copies.length b.cc, (.slice g2 HH.length c2), (.slice g4 BB.length c4)]
 have o4' := o4.setRow (b := w.heap.size + 1) (by omega) #[.int .i64 s.least, .int .i64 s.wait, .slice b.ta s.tiers.length b.tc, .slice b.fa s.files.length b.fc, .slice b.ca s.copies.length b.cc, (.slice g2 HH.length c2), (.slice g4 BB.length c4)]
 have hI := (hO3.in_ HSZ.out).two (RowE.ofV (E := St.eS) (ca := c2) o2') o2'.caps (RowE.ofV (E := St.eG) (ca := c4) o4') o4'.caps HS5.out HS6.out
 have HIZ := Lib.hid hI
 obtain ⟨y0, y1, y2, y3, y4, y5, y6⟩ := hPd.seven
 clear o2 o4 o2' o4' hI hO3 hOd hHeld
 go_wp2_with (refine wpList_store_row rfl 28 _ _ rfl (w.heap.size + 1) #[.int .i64 s.least, .int .i64 s.wait, .slice b.ta s.tiers.length b.tc, .slice b.fa s.files.length b.fc, .slice b.ca s.copies.length b.cc, (.slice g2 HH.length c2), (.slice g4 BB.length c4)] rfl rfl 28 _ hQd infoSto rfl (by simp [Value.oneCell']) ?_)
 obtain ⟨g0, g1, g2', g3, g4', g5, g6⟩ := (Blk.setRowAt hQd #[.int .i64 s.least, .int .i64 s.wait, .slice b.ta s.tiers.length b.tc, .slice b.fa s.files.length b.fc, .slice b.ca s.copies.length b.cc, (.slice g2 HH.length c2), (.slice g4 BB.length c4)]).seven
 refine bodyPost_ret (v := .tuple #[.agg #[.int .i64 s.least, .int .i64 s.wait, .slice b.ta s.tiers.length b.tc, .slice b.fa s.files.length b.fc, .slice b.ca s.copies.length b.cc, (.slice g2 HH.length c2), (.slice g4 BB.length c4)], .int .i64 0]) (by simp [results, Tryz.results12, go_sem, g0, g1, g2', g3, g4', g5, g6]) rfl ?_
 rw [HRE.out]
 exact ⟨_, rfl, HIZ.out, below_setRow hBd (by omega) _⟩
theorem holdS_ok (s : Sto) (a : StA) (d : ByteArray) (w : World) (hI : StIn w s a) (r : St.Right s) (hd : St.hasK St.gdig s.bin d = true) : Calls Tryz.prog 11 #[.agg #[.int .i64 s.least, .int .i64 s.wait, .slice a.ta s.tiers.length a.tc, .slice a.fa s.files.length a.fc, .slice a.ca s.copies.length a.cc, .slice a.ha s.held.length a.hc, .slice a.ba s.bin.length a.bc], .string d] w (StoOk w (St.hold s d)) := by
 obtain ⟨W1, hW1, hP, hz1, hB1⟩ := box w #[.int .i64 s.least, .int .i64 s.wait, .slice a.ta s.tiers.length a.tc, .slice a.fa s.files.length a.fc, .slice a.ca s.copies.length a.cc, .slice a.ha s.held.length a.hc, .slice a.ba s.bin.length a.bc] 28
 obtain ⟨W2, hW2, hQ, hz2, hB2⟩ := box W1 #[.int .i64 0, .int .i64 0, .slice none 0 0, .slice none 0 0, .slice none 0 0, .slice none 0 0, .slice none 0 0] 28
 rw [hz1] at hQ hz2
 have hP := hP.keep hB2
 have hBB := below_up hB1 hB2
 have HW1 := Lib.hid hW1; have HW2 := Lib.hid hW2; have HP := Lib.hid hP; have HQ := Lib.hid hQ; have HBB := Lib.hid hBB; have HZ2 := Lib.hid hz2
 have HI2 := Lib.hid (hI.keep hBB)
 obtain ⟨q0, q1, q2, q3, q4, q5, q6⟩ := hP.seven
 have HCK := Lib.hid (check_is s a W2 HI2.out)
 have HSZ := Lib.hid hI.sz
 clear hI hW1 hW2 hP hQ hz1 hz2 hB1 hB2 hBB
 rw [St.err_iff.2 r] at HCK
 obtain ⟨_, y1, y2, y3, y4, y5⟩ := St.sizes_iff.1 r.sizes
 have HHD0 := Lib.hid (fun V => binRow_is s a V)
 have HHS := Lib.hid (fun V (hv : Below W2.heap.size W2 V) => hasG_is s.bin r.bup (by omega) d a.ba a.bc V (HI2.out.keep hv).bl (HI2.out.keep hv).bi)
 rw [hd] at HHS
 have HCP := Lib.hid (fun V (hv : Below W2.heap.size W2 V) => copyStore_is s a V (HI2.out.keep hv) ⟨y1, y2, y3, y4, y5⟩)
 unfold CpyPost at HCP
 have HWO := Lib.hid (fun (b : StA) V (hI : StIn V s b) => withS_is s.held r.hup (by omega) d b.ha b.hc V hI.hl hI.he)
 have HWT := Lib.hid (fun (b : StA) V (hI : StIn V s b) => woG_is s.bin r.bup (by omega) d b.ba b.bc V hI.bl hI.bi)
 unfold ClnPost at HWO HWT
 have rr := St.right_hold r hd
 have HS5 : Hid (∀ x ∈ St.wth id d s.held, x.size ≤ 9223372036854775807) := Lib.hid fun x hx => by have := St.dsz rr (rr.held x hx); omega
 have HS6 : Hid (∀ g ∈ St.wo St.gdig d s.bin, g.dig.size ≤ 9223372036854775807) := Lib.hid fun g hg => by have := St.dsz rr (rr.bin g hg).1; omega
 have HRE : Hid (St.hold s d = { s with held := St.wth id d s.held, bin := St.wo St.gdig d s.bin }) := Lib.hid rfl
 generalize St.wth id d s.held = HH at *
 generalize St.wo St.gdig d s.bin = BB at *
 clear r rr hd y1 y2 y3 y4 y5
 go_enter Tryz.func11, Tryz.ntmps11
 go_upto_region 1 with fail
 rw [HW1.out, HW2.out]
 go_upto_region 7 with (first
  | (go_at_call 32; (with_reducible refine HCK.out.mono ?_); rintro e w3 ⟨rfl, hv⟩; obtain ⟨q0, q1, q2, q3, q4, q5, q6⟩ := (HP.out.keep hv).seven)
  | (go_at_call 60; (with_reducible refine (HHD0.out _).mono ?_); rintro e w4 ⟨rfl, hq⟩; have hv := below_up hv hq)
  | (go_at_call 62; (with_reducible refine (HHS.out _ hv).mono ?_); rintro e w7 ⟨rfl, hq⟩; have hv := below_up hv hq; obtain ⟨q0, q1, q2, q3, q4, q5, q6⟩ := (HP.out.keep hv).seven)
  | (go_at_call 51; (with_reducible refine (HCP.out _ hv).mono ?_); rintro e w8 ⟨b, rfl, hOwn, hB8⟩)
  | (refine wpList_store_row rfl 28 _ _ rfl w.heap.size #[.int .i64 s.least, .int .i64 s.wait, .slice b.ta s.tiers.length b.tc, .slice b.fa s.files.length b.fc, .slice b.ca s.copies.length b.cc, .slice b.ha s.held.length b.hc, .slice b.ba s.bin.length b.bc] rfl rfl 28 _ (HP.out.keep (below_up hv hB8)) infoSto rfl (by simp [Value.oneCell']) ?_))
 have hlt4 : w.heap.size + 1 < w7.heap.size := by have := HZ2.out; have := hv.size; omega
 have hv8 := below_up hv hB8
 have hPv := Blk.setRowAt (HP.out.keep hv8) #[.int .i64 s.least, .int .i64 s.wait, .slice b.ta s.tiers.length b.tc, .slice b.fa s.files.length b.fc, .slice b.ca s.copies.length b.cc, .slice b.ha s.held.length b.hc, .slice b.ba s.bin.length b.bc]
 have hQv := (HQ.out.keep hv8).setRowOther (b' := w.heap.size) (by omega) #[.int .i64 s.least, .int .i64 s.wait, .slice b.ta s.tiers.length b.tc, .slice b.fa s.files.length b.fc, .slice b.ca s.copies.length b.cc, .slice b.ha s.held.length b.hc, .slice b.ba s.bin.length b.bc]
 have hBv := below_setRow (below_up HBB.out hv8) (Nat.le_refl w.heap.size) #[.int .i64 s.least, .int .i64 s.wait, .slice b.ta s.tiers.length b.tc, .slice b.fa s.files.length b.fc, .slice b.ca s.copies.length b.cc, .slice b.ha s.held.length b.hc, .slice b.ba s.bin.length b.bc]
 have hOv := hOwn.setRow (b := w.heap.size) (by omega) #[.int .i64 s.least, .int .i64 s.wait, .slice b.ta s.tiers.length b.tc, .slice b.fa s.files.length b.fc, .slice b.ca s.copies.length b.cc, .slice b.ha s.held.length b.hc, .slice b.ba s.bin.length b.bc]
 have hVz : w.heap.size + 2 ≤ (w8.setRow w.heap.size #[.int .i64 s.least, .int .i64 s.wait, .slice b.ta s.tiers.length b.tc, .slice b.fa s.files.length b.fc, .slice b.ca s.copies.length b.cc, .slice b.ha s.held.length b.hc, .slice b.ba s.bin.length b.bc]).heap.size := by have := hB8.size; simp; omega
 obtain ⟨V, hV⟩ : ∃ V, w8.setRow w.heap.size #[.int .i64 s.least, .int .i64 s.wait, .slice b.ta s.tiers.length b.tc, .slice b.fa s.files.length b.fc, .slice b.ca s.copies.length b.cc, .slice b.ha s.held.length b.hc, .slice b.ba s.bin.length b.bc] = V := ⟨_, rfl⟩
 rw [hV] at hPv hQv hBv hOv hVz ⊢
 clear hV q0 q1 q2 q3 q4 q5 q6 hOwn
 have HHD := Lib.hid (fun V => held_is s b V)
 have HBN := Lib.hid (fun V => binRow_is s b V)
 have hPd := hPv.drew; have hQd := hQv.drew; have hBd := hBv.drew
 have hOd := hOv.keep (Below.refl _ _).drew
 have hsz : w.heap.size + 2 ≤ V.drew.heap.size := hVz
 clear hPv hQv hBv hOv hVz hv8 hB8 hv
 have hHeld := hPd.seven
 refine wp_region_until (fun W => W.cell? ⟨w.heap.size, 0, none⟩ = some (.int .i64 s.least) ∧ W.cell? ⟨w.heap.size, 1, none⟩ = some (.int .i64 s.wait) ∧ W.cell? ⟨w.heap.size, 2, none⟩ = some (.slice b.ta s.tiers.length b.tc) ∧ W.cell? ⟨w.heap.size, 3, none⟩ = some (.slice b.fa s.files.length b.fc) ∧ W.cell? ⟨w.heap.size, 4, none⟩ = some (.slice b.ca s.copies.length b.cc) ∧ W.cell? ⟨w.heap.size, 5, none⟩ = some (.slice b.ha s.held.length b.hc) ∧ W.cell? ⟨w.heap.size, 6, none⟩ = some (.slice b.ba s.bin.length b.bc)) 9 (by kernel_rfl) ?_
 refine anyM_take (i := 0) (v := ?_) rfl rfl (by kernel_rfl) (by decide) (by kernel_rfl) (by kernel_rfl) (by kernel_rfl) (fun _ _ _ h => h) (Or.inl ⟨by rfl, ?_⟩) (by rfl) (by assumption) ?_
 rotate_left
 ·(intro w hSw; (try dsimp only at hSw); (try obtain ⟨hs1, hs2, hs3, hs4, hs5, hs6, hs7⟩ := hSw); go_simp; try (with_reducible rfl))
 try go_frame
 refine anyM_take0 (i := 2) (v := ?_) rfl (by decide) (by kernel_rfl) (by kernel_rfl) (by kernel_rfl) (fun _ _ _ h => h) (Or.inl ⟨by rfl, ?_⟩) (fun _ => by assumption) ?_
 rotate_left
 ·(intro w hSw; go_simp; try (with_reducible rfl))
 try go_frame
 refine anyM_take (i := 4) (v := ?_) rfl rfl (by kernel_rfl) (by decide) (by kernel_rfl) (by kernel_rfl) (by kernel_rfl) (fun _ _ _ h => h) (Or.inl ⟨by rfl, ?_⟩) (by rfl) (by assumption) ?_
 rotate_left
 ·(intro w hSw; (try dsimp only at hSw); (try obtain ⟨hs1, hs2, hs3, hs4, hs5, hs6, hs7⟩ := hSw); go_simp; try (with_reducible rfl))
 try go_frame
 refine anyM_take0 (i := 6) (v := ?_) rfl (by decide) (by kernel_rfl) (by kernel_rfl) (by kernel_rfl) (fun _ _ _ h => h) (Or.inl ⟨by rfl, ?_⟩) (fun _ => by assumption) ?_
 rotate_left
 ·(intro w hSw; go_simp; try (with_reducible rfl))
 try go_frame
 refine anyM_ready (rs := [1]) (by kernel_rfl) (by simp) ?_
 refine ReadyM.cons rfl (fun K hK => ?_) ReadyM.nil
 go_simp
 refine (HHD.out _).mono ?_
 rintro e x1 ⟨rfl, hq1⟩
 have hPd := hPd.keep hq1; have hQd := hQd.keep hq1; have hOd := hOd.keep hq1
 have hBd := below_up hBd hq1
 have hsz := Nat.le_trans hsz hq1.size
 have hHeld := hPd.seven
 refine hK.out _ _ (fun _ => hHeld) ?_
 clear hK K
 try go_frame
 refine anyM_ready (rs := [3]) (by kernel_rfl) (by simp) ?_
 refine ReadyM.cons rfl (fun K hK => ?_) ReadyM.nil
 go_simp
 refine (HWO.out b _ (hOd.in_ HSZ.out)).mono ?_
 rintro e x2 ⟨g2, c2, rfl, o2, hq2⟩; have o2 := o2.down hsz
 have hPd := hPd.keep hq2; have hQd := hQd.keep hq2; have hOd := hOd.keep hq2
 have hBd := below_up hBd hq2
 have hsz := Nat.le_trans hsz hq2.size
 have hHeld := hPd.seven
 refine hK.out _ _ (fun _ => hHeld) ?_
 clear hK K
 try go_frame
 refine anyM_take0 (i := 8) (v := ?_) rfl (by decide) (by kernel_rfl) (by kernel_rfl) (by kernel_rfl) (fun _ _ _ h => h) (Or.inl ⟨by rfl, ?_⟩) (fun _ => by assumption) ?_
 rotate_left
 ·(intro w hSw; go_simp; try (with_reducible rfl))
 try go_frame
 refine anyM_ready (rs := [5]) (by kernel_rfl) (by simp) ?_
 refine ReadyM.cons rfl (fun K hK => ?_) ReadyM.nil
 go_simp
 refine (HBN.out _).mono ?_
 rintro e x3 ⟨rfl, hq3⟩
 have hPd := hPd.keep hq3; have hQd := hQd.keep hq3; have hOd := hOd.keep hq3
 have hBd := below_up hBd hq3
 have hsz := Nat.le_trans hsz hq3.size
 have hHeld := hPd.seven
 refine hK.out _ _ (fun _ => hHeld) ?_
 clear hK K
 try go_frame
 refine anyM_ready (rs := [7]) (by kernel_rfl) (by simp) ?_
 refine ReadyM.cons rfl (fun K hK => ?_) ReadyM.nil
 go_simp
 refine (HWT.out b _ (hOd.in_ HSZ.out)).mono ?_
 rintro e x4 ⟨g4, c4, rfl, o4, hq4⟩; have o4 := o4.down hsz
 have hPd := hPd.keep hq4; have hQd := hQd.keep hq4; have hOd := hOd.keep hq4
 have hBd := below_up hBd hq4
 have hsz := Nat.le_trans hsz hq4.size
 have hHeld := hPd.seven
 refine hK.out _ _ (fun _ => hHeld) ?_
 clear hK K
 try go_frame
 have o2 := o2.keep hq3
 have o2 := o2.keep hq4
 clear hHeld
 obtain ⟨y0, y1, y2, y3, y4, y5, y6⟩ := hPd.seven
 have yf := hPd.free
 refine anyM_ready (rs := [9]) (by kernel_rfl) (by simp) ?_
 refine ReadyM.cons rfl (fun K hK => ?_) ReadyM.nil
 go_simp
 refine hK.out _ _ (fun h => absurd h (by simp)) ?_
 clear hK K y0 y1 y2 y3 y4 y5 y6 yf
 try go_frame
 have hPs := hPd.set 5 (.slice g2 HH.length c2)
 have hQs := hQd.setOther (a := ⟨w.heap.size, 5, none⟩) (by simp) (.slice g2 HH.length c2)
 have hBs := hBd.setCell (p := ⟨w.heap.size, 5, none⟩) (by simp) (.slice g2 HH.length c2)
 have hOd := hOd.cellB (b := w.heap.size) (by omega) 5 (.slice g2 HH.length c2)
 have o2 := o2.next (i := 5) (b := w.heap.size) (u := .slice g2 HH.length c2) (Below.refl _ _) (by omega)
 have o4 := o4.next (i := 5) (b := w.heap.size) (u := .slice g2 HH.length c2) (Below.refl _ _) (by omega)
 have hsz := show w.heap.size + 2 ≤ (x4.setCell ⟨w.heap.size, 5, none⟩ (.slice g2 HH.length c2)).heap.size by simp; omega
 generalize x4.setCell ⟨w.heap.size, 5, none⟩ (.slice g2 HH.length c2) = y5 at *
 clear hPd hQd hBd
 have hPd : Blk y5 w.heap.size #[.int .i64 s.least, .int .i64 s.wait, .slice b.ta s.tiers.length b.tc, .slice b.fa s.files.length b.fc, .slice b.ca s.copies.length b.cc, (.slice g2 HH.length c2), (.slice b.ba s.bin.length b.bc)] 28 := hPs
 have hQd := hQs; have hBd := hBs
 clear hPs hQs hBs
 refine anyM_ready (rs := [10]) (by kernel_rfl) (by simp) ?_
 refine ReadyM.cons rfl (fun K hK => ?_) ReadyM.nil
 go_simp
 refine hK.out _ _ (fun h => absurd h (by simp)) ?_
 clear hK K
 try go_frame
 obtain ⟨y0, y1, y2, y3, y4, y5, y6⟩ := hPd.seven
 have yf := hPd.free
 refine anyM_ready (rs := [11]) (by kernel_rfl) (by simp) ?_
 refine ReadyM.cons rfl (fun K hK => ?_) ReadyM.nil
 go_simp
 refine hK.out _ _ (fun h => absurd h (by simp)) ?_
 clear hK K y0 y1 y2 y3 y4 y5 y6 yf
 try go_frame
 have hPs := hPd.set 6 (.slice g4 BB.length c4)
 have hQs := hQd.setOther (a := ⟨w.heap.size, 6, none⟩) (by simp) (.slice g4 BB.length c4)
 have hBs := hBd.setCell (p := ⟨w.heap.size, 6, none⟩) (by simp) (.slice g4 BB.length c4)
 have hOd := hOd.cellB (b := w.heap.size) (by omega) 6 (.slice g4 BB.length c4)
 have o2 := o2.next (i := 6) (b := w.heap.size) (u := .slice g4 BB.length c4) (Below.refl _ _) (by omega)
 have o4 := o4.next (i := 6) (b := w.heap.size) (u := .slice g4 BB.length c4) (Below.refl _ _) (by omega)
 have hsz := show w.heap.size + 2 ≤ (y5.setCell ⟨w.heap.size, 6, none⟩ (.slice g4 BB.length c4)).heap.size by simp; omega
 generalize y5.setCell ⟨w.heap.size, 6, none⟩ (.slice g4 BB.length c4) = y6 at *
 clear hPd hQd hBd
 have hPd : Blk y6 w.heap.size #[.int .i64 s.least, .int .i64 s.wait, .slice b.ta s.tiers.length b.tc, .slice b.fa s.files.length b.fc, .slice b.ca s.copies.length b.cc, (.slice g2 HH.length c2), (.slice g4 BB.length c4)] 28 := hPs
 have hQd := hQs; have hBd := hBs
 clear hPs hQs hBs
 refine anyM_done (by kernel_rfl) ?_ _
 have hI := (hOd.in_ HSZ.out).two (RowE.ofV (E := St.eS) (ca := c2) o2) o2.caps (RowE.ofV (E := St.eG) (ca := c4) o4) o4.caps HS5.out HS6.out
 have hO3 := hOd.setRow (b := w.heap.size + 1) (by omega) #[.int .i64 s.least, .int .i64 s.wait, .slice b.ta s.tiers.length b.tc, .slice b.fa s.files.length b.fc, .slice b.ca s.copies.length b.cc, (.slice g2 HH.length c2), (.slice g4 BB.length c4)]
 have o2' := o2.setRow (b := w.heap.size + 1) (by omega) #[.int .i64 s.least, .int .i64 s.wait, .slice b.ta s.tiers.length b.tc, .slice b.fa s.files.length b.fc, .slice b.ca s.copies.length b.cc, (.slice g2 HH.length c2), (.slice g4 BB.length c4)]
 have o4' := o4.setRow (b := w.heap.size + 1) (by omega) #[.int .i64 s.least, .int .i64 s.wait, .slice b.ta s.tiers.length b.tc, .slice b.fa s.files.length b.fc, .slice b.ca s.copies.length b.cc, (.slice g2 HH.length c2), (.slice g4 BB.length c4)]
 have hI := (hO3.in_ HSZ.out).two (RowE.ofV (E := St.eS) (ca := c2) o2') o2'.caps (RowE.ofV (E := St.eG) (ca := c4) o4') o4'.caps HS5.out HS6.out
 have HIZ := Lib.hid hI
 obtain ⟨y0, y1, y2, y3, y4, y5, y6⟩ := hPd.seven
 clear o2 o4 o2' o4' hI hO3 hOd hHeld
 go_wp2_with (refine wpList_store_row rfl 28 _ _ rfl (w.heap.size + 1) #[.int .i64 s.least, .int .i64 s.wait, .slice b.ta s.tiers.length b.tc, .slice b.fa s.files.length b.fc, .slice b.ca s.copies.length b.cc, (.slice g2 HH.length c2), (.slice g4 BB.length c4)] rfl rfl 28 _ hQd infoSto rfl (by simp [Value.oneCell']) ?_)
 obtain ⟨g0, g1, g2', g3, g4', g5, g6⟩ := (Blk.setRowAt hQd #[.int .i64 s.least, .int .i64 s.wait, .slice b.ta s.tiers.length b.tc, .slice b.fa s.files.length b.fc, .slice b.ca s.copies.length b.cc, (.slice g2 HH.length c2), (.slice g4 BB.length c4)]).seven
 refine bodyPost_ret (v := .tuple #[.agg #[.int .i64 s.least, .int .i64 s.wait, .slice b.ta s.tiers.length b.tc, .slice b.fa s.files.length b.fc, .slice b.ca s.copies.length b.cc, (.slice g2 HH.length c2), (.slice g4 BB.length c4)], .int .i64 0]) (by simp [results, Tryz.results11, go_sem, g0, g1, g2', g3, g4', g5, g6]) rfl ?_
 rw [HRE.out]
 exact ⟨_, rfl, HIZ.out, below_setRow hBd (by omega) _⟩
end Go.Proofs.YthdiccdnggloiaaGreatDoor
