/- Parts of the proof, no condition: StEv1. -/
import Derived.Test.YthdiccdnggloiaaGreatDoorPl7
import Derived.Test.YthdiccdnggloiaaGreatDoorPl10
import Derived.Test.YthdiccdnggloiaaGreatDoorPl15
import Derived.Deep.AppendLies
set_option maxHeartbeats 2000000
set_option linter.unusedSimpArgs false
set_option linter.unusedVariables false
namespace Go.Proofs.YthdiccdnggloiaaGreatDoor
open Go.RowKit Go.Sort Go.Shelf Go.Maps
theorem nanI_is (x : Int) (w : World) : Calls Tryz.prog 204 #[.int .i64 x] w fun e w' => e = .returned (.bool false) ∧ w = w' := by
 go_enter Tryz.func204, Tryz.ntmps204
 go_wp2
 go_ret
 exact ⟨by simp, rfl⟩
def St.ci (x y : Int) : Int := if x < y then -1 else if y < x then 1 else 0
theorem cmpI_is (x y : Int) (w : World) : Calls Tryz.prog 169 #[.int .i64 x, .int .i64 y] w fun e w' => e = .returned (.int .i64 (St.ci x y)) ∧ w = w' := by
 unfold St.ci
 by_cases h : x < y
 ·rw [if_pos h]
  go_enter Tryz.func169, Tryz.ntmps169
  go_wp2_with (go_at_call 204; refine (nanI_is _ _).mono ?_; rintro e w' ⟨rfl, rfl⟩)
  go_ret
  exact ⟨rfl, rfl⟩
 ·rw [if_neg h]
  by_cases h2 : y < x
  ·rw [if_pos h2]
   go_enter Tryz.func169, Tryz.ntmps169
   go_wp2_with (go_at_call 204; refine (nanI_is _ _).mono ?_; rintro e w' ⟨rfl, rfl⟩)
   go_ret
   exact ⟨rfl, rfl⟩
  ·rw [if_neg h2]
   go_enter Tryz.func169, Tryz.ntmps169
   go_wp2_with (go_at_call 204; refine (nanI_is _ _).mono ?_; rintro e w' ⟨rfl, rfl⟩)
   go_ret
   exact ⟨rfl, rfl⟩
theorem evCmp_is (a b : Cop) (w : World) : Calls Tryz.prog 168 #[.agg #[.string a.dig, .string a.tier, .bool a.good, .int .i64 a.asked], .agg #[.string b.dig, .string b.tier, .bool b.good, .int .i64 b.asked]] w fun e w' => e = .returned (.int .i64 (St.ci a.asked b.asked)) ∧ Below w.heap.size w w' := by
 obtain ⟨W1, hW1, hA, hz1, hB1⟩ := box w #[.string a.dig, .string a.tier, .bool a.good, .int .i64 a.asked] 74
 obtain ⟨W2, hW2, hR, hz2, hB2⟩ := box W1 #[.string b.dig, .string b.tier, .bool b.good, .int .i64 b.asked] 74
 have HW1 := Lib.hid hW1; have HW2 := Lib.hid hW2
 rw [hz1] at hR
 have HB := Lib.hid (below_up hB1 hB2)
 obtain ⟨a0, a1, a2, a3⟩ := (hA.keep hB2).four
 obtain ⟨b0, b1, b2, b3⟩ := hR.four
 clear hW1 hW2 hA hR hz1 hz2 hB1 hB2
 go_enter Tryz.func168, Tryz.ntmps168
 go_upto_region 1 with fail
 rw [HW1.out, HW2.out]
 go_wp2_with (go_at_call 169; refine (cmpI_is _ _ _).mono ?_; rintro e w' ⟨rfl, rfl⟩)
 go_ret
 exact ⟨rfl, HB.out⟩
theorem enters_ev : ∀ args w, (callFunc 168 args).run Tryz.prog w = .ok (.enter 168 args) w := enters_of Tryz.func168 (by kernel_rfl) rfl
theorem ev_cmp (w : World) (g : Nat) : CmpOk St.eC w g 168 #[] (fun _ => True) St.evNeg := by
 intro V x y _ _ _
 refine (evCmp_is x y V).mono ?_
 rintro e w' ⟨rfl, hB⟩
 refine ⟨_, rfl, ?_, hB⟩
 unfold St.ci St.evNeg
 split
 ·rename_i h; simp [h]
 ·rename_i h; split <;> simp [h]
theorem stCp_ins0 (a : Option Addr) (ca : Nat) (fv : Value) (w : World) : Calls Tryz.prog 221 #[.slice a 0 ca, .int .i64 0, .int .i64 0, fv] w fun e w' => e = .returned (.tuple #[]) ∧ w = w' := by
 go_enter Tryz.func221, Tryz.ntmps221
 go_wp2_with fail
 go_loopg [8] 0 (fun gk s8 wr => s8 = .int .i64 1 ∧ w = wr)
 case atStart => exact ⟨rfl, rfl⟩
 case round =>
  obtain ⟨rfl, rfl⟩ := hrel
  go_wp2_with fail
  go_end0
  exact ⟨rfl, rfl⟩
theorem stCp_stable0 (a : Option Addr) (ca : Nat) (fv : Value) (w : World) : Calls Tryz.prog 203 #[.slice a 0 ca, .int .i64 0, fv] w fun e w' => e = .returned (.tuple #[]) ∧ w = w' := by
 go_enter Tryz.func203, Tryz.ntmps203
 go_wp2_with fail
 go_loopg [7, 8] 0 (fun gk s7 s8 wr => s7 = .int .i64 0 ∧ s8 = .int .i64 20 ∧ w = wr)
 case atStart => exact ⟨rfl, rfl, rfl⟩
 case round =>
  obtain ⟨rfl, rfl, rfl⟩ := hrel
  go_wp2_with (go_at_call 221; refine (stCp_ins0 _ _ _ _).mono ?_; rintro e w' ⟨rfl, rfl⟩)
  go_loopg [6] 0 (fun gk s6 wr => s6 = .int .i64 20 ∧ w = wr)
  case atStart => exact ⟨rfl, rfl⟩
  case round =>
   obtain ⟨rfl, rfl⟩ := hrel
   go_wp2_with fail
   go_end0
   exact ⟨rfl, rfl⟩
theorem stCp_sort0 (a : Option Addr) (ca : Nat) (fv : Value) (w : World) : Calls Tryz.prog 167 #[.slice a 0 ca, fv] w fun e w' => e = .returned (.tuple #[]) ∧ w = w' := by
 go_enter Tryz.func167, Tryz.ntmps167
 go_wp2_with (go_at_call 203; refine (stCp_stable0 _ _ _ _).mono ?_; rintro e w' ⟨rfl, rfl⟩)
 go_end0
 exact ⟨rfl, rfl⟩
theorem evSort_is (L : List Cop) (hL : St.Up St.ckey L) (hn : L.length ≤ 1000000) (B g cap : Nat) (w : World) (h : SRow St.eC w B 74 g cap L.length L) :
  Calls Tryz.prog 167 #[.slice (some ⟨g, 0, none⟩) L.length cap, .func (.func 168) #[] #[]] w fun e w' => e = .returned (.tuple #[]) ∧ ∃ M, List.Perm M L ∧ M.Pairwise St.evLt ∧ SRow St.eC w' B 74 g cap L.length M ∧ w.grownBy w' (some g) :=
 stCp_sortStable St.eC rfl St.ev_ord 168 #[] enters_ev (fun _ => True) B g cap L.length hn L w (ev_cmp w g) h (St.ev_fit hL) (fun _ _ => trivial)
theorem infoMov : (Tryz.prog.info? 52).map (fun i => (i.zero, i.size, i.bytes)) = some (some (.agg #[.int .i64 0, .string ByteArray.empty, .string ByteArray.empty, .string ByteArray.empty]), 4, 56) := by kernel_rfl

theorem list_appM {ops : Array Oper} {rest : List Oper} {o : Oper} {a : Act} {V : World} {cs : Array Value} {Q : Exit → Act → World → Prop} (hgd : o.guard = none) (s x : Operand)
  (ho : o.op = .call { callee := .builtin .append, args := #[s, x], argTypes := #[41, 41] }) (base : Nat) (v : Value) (n : Nat) (xs : List Value) (hs : a.eval s = v) (hx : a.eval x = .slice (some ⟨V.heap.size, 0, none⟩) 1 1)
  (hown : V.ownsRow base 52 4 v n xs) (hn : n ≤ 1000000) (hb : base ≤ V.heap.size) (hcs : cs.toList.length = 1 * 4) (h1 : ∀ u ∈ cs.toList, u.oneCell' = true)
  (h : ∀ g cap w', w'.ownsRow base 52 4 (.slice (some ⟨g, 0, none⟩) (n + 1) cap) (n + 1) (xs ++ cs.toList) → (V.alloc (.cells cs 52)).grownBy w' v.ownBlock → wpList Tryz.prog ops Q rest (a.put o.dst (.slice (some ⟨g, 0, none⟩) (n + 1) cap)) w') :
  wpList Tryz.prog ops Q (o :: rest) a (V.alloc (.cells cs 52)) := by
 obtain ⟨i0, hi0, hi1, hi2, hi3⟩ := info_parts infoMov
 exact wpList_append_own2 _ hgd s x _ ho base 52 i0 (.agg #[.int .i64 0, .string ByteArray.empty, .string ByteArray.empty, .string ByteArray.empty]) 4 56 Tryz.underlying41 hi0 hi1 hi2 hi3 rfl (by decide) v n xs hs (hown.alloc _) ⟨V.heap.size, 0, none⟩ 1 1 cs.toList hx (by decide) hcs
  (World.news_of_block (cs := cs) (t := 52) (fr := (0, 0)) (Blk.new V cs 52)) h1 (by unfold maxLen; omega) (by omega) (by simp; omega) (fun g cap w' h1 h2 _ => h g cap w' h1 h2)
theorem clnM_clip (a : Option Addr) (n ca : Nat) (w : World) (h : n ≤ ca) (hc : ca ≤ 9223372036854775807) : Calls Tryz.prog 123 #[.slice a n ca] w fun e w' => e = .returned (.slice a n n) ∧ w = w' := by
 go_enter Tryz.func123, Tryz.ntmps123
 go_wp2_with fail
 go_ret
 exact ⟨rfl, rfl⟩
theorem list_catC {ops : Array Oper} {rest : List Oper} {o : Oper} {a : Act} {V : World} {Q : Exit → Act → World → Prop} (hgd : o.guard = none) (s x : Operand)
  (ho : o.op = .call { callee := .builtin .append, args := #[s, x], argTypes := #[24, 24] }) (base : Nat) (v : Value) (n : Nat) (xs : List Value) (hs : a.eval s = v) (g0 m c : Nat) (L : List Cop) (hx : a.eval x = .slice (some ⟨g0, 0, none⟩) m c) (hm : 0 < m)
  (hL : SRow St.eC V base 74 g0 c m L)
  (hown : V.ownsRow base 74 4 v n xs) (hn : n + m ≤ 1000000) (hb : base ≤ V.heap.size)
  (h : ∀ g cap w', w'.ownsRow base 74 4 (.slice (some ⟨g, 0, none⟩) (n + m) cap) (n + m) (xs ++ St.eC.flat L) → V.grownBy w' v.ownBlock → wpList Tryz.prog ops Q rest (a.put o.dst (.slice (some ⟨g, 0, none⟩) (n + m) cap)) w') :
  wpList Tryz.prog ops Q (o :: rest) a V := by
 obtain ⟨i0, hi0, hi1, hi2, hi3⟩ := info_parts infoCop
 refine wpList_append_own2 _ hgd s x _ ho base 74 i0 (.agg #[.string ByteArray.empty, .string ByteArray.empty, .bool false, .int .i64 0]) 4 48 Tryz.underlying24 hi0 hi1 hi2 hi3 rfl (by decide) v n xs hs hown ⟨g0, 0, none⟩ m c (St.eC.flat L) hx hm
  (by rw [St.eC.flat_len, hL.len]; rfl) (fun j u hj => ?_) (Enc.flat_one St.eC L) (by unfold maxLen; omega) (by omega) hb (fun g cap w' h1 h2 _ => h g cap w' h1 h2)
 rw [show (⟨g0, 0, none⟩ : Addr).add j = ⟨g0, j, none⟩ from by unfold Addr.add; split <;> simp_all]
 rw [hL.own.cellAt j (by have := (List.getElem?_eq_some_iff.1 hj).1; rw [St.eC.flat_len, hL.len] at this; exact this)]
 exact hj
theorem run_append0C (A : Option Addr) (n c : Nat) (h : n ≤ c) (ty : TypeId) (V : World) : (Builtin.append_ #[24, 24] ty #[.slice A n c, .slice none 0 0]).run Tryz.prog V = .ok (.slice A n c) V := by
 obtain ⟨i0, hi0, hi1, hi2, hi3⟩ := info_parts infoCop
 cases A with
 | none => simp [Builtin.append_, run_underlying Tryz.underlying24, sizeOf, typeInfo, hi0, Builtin.lenOf, Builtin.firstCells, h]
 | some b => simp [Builtin.append_, run_underlying Tryz.underlying24, sizeOf, typeInfo, hi0, Builtin.lenOf, Builtin.firstCells, h, storeCells]
theorem list_cat0 {ops : Array Oper} {rest : List Oper} {o : Oper} {a : Act} {V : World} {Q : Exit → Act → World → Prop} (hgd : o.guard = none) (s x : Operand)
  (ho : o.op = .call { callee := .builtin .append, args := #[s, x], argTypes := #[24, 24] }) (A : Option Addr) (n c : Nat) (hs : a.eval s = .slice A n c) (hx : a.eval x = .slice none 0 0) (hc : n ≤ c)
  (h : wpList Tryz.prog ops Q rest (a.put o.dst (.slice A n c)) V) : wpList Tryz.prog ops Q (o :: rest) a V :=
 wpList_plain hgd fun _ hK => by
  have hr := run_append0C A n c hc o.type V
  unfold Oper.wp execOp
  simp only [ho, resolve, invoke, builtin, Sem.run_bind, Sem.run_pure, Result.andThen_ok, List.map_toArray, List.map_cons, List.map_nil, hs, hx, hr]
  exact hK _ _ h
theorem own_far {W w' : World} {B B' k k' n n' : Nat} {e e' : TypeId} {v v' : Value} {xs xs' : List Value} (h : OwnV W B e k v n xs) (ho : W.ownsRow B' e' k' v' n' xs') (hne : e ≠ e') (hg : W.grownBy w' v'.ownBlock) : OwnV w' B e k v n xs := by
 rcases h with h | ⟨g, cap, rfl, hO⟩
 ·exact .inl h
 ·refine .inr ⟨g, cap, rfl, hO.of_block (hg.block g hO.lt.2 fun e2 => ?_)⟩
  obtain ⟨cur, _, hc, _⟩ := id hO
  rcases ho.2 with ⟨rfl, _⟩ | ⟨g', cap', cur', rfl, _, hc', _⟩
  ·cases e2
  ·have e2 : some g = some g' := e2
   injection e2 with e2
   subst e2
   rw [hc] at hc'
   cases hc'
   exact hne rfl
end Go.Proofs.YthdiccdnggloiaaGreatDoor
