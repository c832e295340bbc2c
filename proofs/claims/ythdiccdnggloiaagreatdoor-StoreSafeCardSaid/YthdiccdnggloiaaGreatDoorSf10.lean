/- Parts of the proof, no condition: StTlQ, StHgR, StWthC, HexMath, StHx, StDgM, RepLays, StDg. -/
import Derived.Test.YthdiccdnggloiaaGreatDoorSf9
import Derived.Test.YthdiccdnggloiaaGreatDoorSf8
import Derived.Test.YthdiccdnggloiaaGreatDoorSf3
import Derived.Test.YthdiccdnggloiaaGreatDoorSf7
import Derived.Test.YthdiccdnggloiaaGreatDoorSf5
import Derived.Deep.RegionHeld3
import Derived.Test.YthdiccdnggloiaaGreatDoorSf1
import Derived.Lib.LaidTab
import Derived.LaidMore
import Derived.Stop.LaidErr
import Derived.Laws.Bits64b
import Derived.Lib.TrailingZeros
import Derived.Lib.SmallJoins
import Derived.Shelf.Strings.Repeat
import Derived.Test.YthdiccdnggloiaaGreatDoorProg
import Derived.Test.YthdiccdnggloiaaGreatDoorSf6
import Derived.Laws.Bits64
set_option maxRecDepth 100000
set_option maxHeartbeats 8000000
set_option linter.unusedSimpArgs false
set_option linter.unusedVariables false
namespace Go.Proofs.YthdiccdnggloiaaGreatDoor
open Go.RowKit Go.Sort Go.Shelf Go.Maps
def TlOk {α : Type} (E : Enc α) (w : World) (L : List α) (e : Ending) (w' : World) : Prop := ∃ g cap, e = .returned (.tuple #[.slice g L.length cap, .int .i64 0]) ∧ RowE E w' g L ∧ L.length ≤ cap ∧ cap ≤ 9223372036854775807 ∧ Below w.heap.size w w'
theorem garbS_ok (s : Sto) (a : StA) (w : World) (hI : StIn w s a) (r : St.Right s) : Calls Tryz.prog 29 #[.agg #[.int .i64 s.least, .int .i64 s.wait, .slice a.ta s.tiers.length a.tc, .slice a.fa s.files.length a.fc, .slice a.ca s.copies.length a.cc, .slice a.ha s.held.length a.hc, .slice a.ba s.bin.length a.bc]] w (TlOk St.eC w (St.garbageL s)) := by
 obtain ⟨W1, hW1, hP, hz1, hB1⟩ := box w #[.int .i64 s.least, .int .i64 s.wait, .slice a.ta s.tiers.length a.tc, .slice a.fa s.files.length a.fc, .slice a.ca s.copies.length a.cc, .slice a.ha s.held.length a.hc, .slice a.ba s.bin.length a.bc] 28
 have HW1 := Lib.hid hW1
 have HI1 := Lib.hid (hI.keep hB1)
 have q0 : W1.cell? ⟨w.heap.size, 0, none⟩ = some (.int .i64 s.least) := (hP.cell 0).trans rfl
 have q1 : W1.cell? ⟨w.heap.size, 1, none⟩ = some (.int .i64 s.wait) := (hP.cell 1).trans rfl
 have q2 : W1.cell? ⟨w.heap.size, 2, none⟩ = some (.slice a.ta s.tiers.length a.tc) := (hP.cell 2).trans rfl
 have q3 : W1.cell? ⟨w.heap.size, 3, none⟩ = some (.slice a.fa s.files.length a.fc) := (hP.cell 3).trans rfl
 have q4 : W1.cell? ⟨w.heap.size, 4, none⟩ = some (.slice a.ca s.copies.length a.cc) := (hP.cell 4).trans rfl
 have q5 : W1.cell? ⟨w.heap.size, 5, none⟩ = some (.slice a.ha s.held.length a.hc) := (hP.cell 5).trans rfl
 have q6 : W1.cell? ⟨w.heap.size, 6, none⟩ = some (.slice a.ba s.bin.length a.bc) := (hP.cell 6).trans rfl
 have HP := Lib.hid hP; have HB1 := Lib.hid hB1
 clear hW1 hP
 obtain ⟨_, y1, y2, y3, y4, y5⟩ := St.sizes_iff.1 r.sizes
 have HCK := Lib.hid (check_is s a W1 HI1.out)
 rw [St.err_iff.2 r] at HCK
 have HLK := Lib.hid (fun V (hv : Below W1.heap.size W1 V) => look_is s a V (HI1.out.keep hv) (by omega))
 have HCL : Hid (∀ W, Below W1.heap.size W1 W → W.cell? ⟨w.heap.size, 0, none⟩ = some (.int .i64 s.least) ∧ W.cell? ⟨w.heap.size, 1, none⟩ = some (.int .i64 s.wait) ∧ W.cell? ⟨w.heap.size, 2, none⟩ = some (.slice a.ta s.tiers.length a.tc) ∧ W.cell? ⟨w.heap.size, 3, none⟩ = some (.slice a.fa s.files.length a.fc) ∧ W.cell? ⟨w.heap.size, 4, none⟩ = some (.slice a.ca s.copies.length a.cc) ∧ W.cell? ⟨w.heap.size, 5, none⟩ = some (.slice a.ha s.held.length a.hc) ∧ W.cell? ⟨w.heap.size, 6, none⟩ = some (.slice a.ba s.bin.length a.bc)) := Lib.hid fun W hb => (HP.out.keep hb).seven
 have HAN := Lib.hid (fun mb V (hv : Below W1.heap.size W1 V) (hM : FMap V mb s.files) => garbage_is s a mb V (HI1.out.keep hv) hM r)
 unfold CopPost at HAN
 clear hI r hz1 y1 y2 y3 y4 y5
 go_enter Tryz.func29, Tryz.ntmps29
 go_upto_region 1 with fail
 rw [HW1.out]
 go_wp2_with (first
  | (go_at_call 32; (with_reducible refine HCK.out.mono ?_); rintro e w3 ⟨rfl, hv⟩; obtain ⟨q0, q1, q2, q3, q4, q5, q6⟩ := HCL.out _ hv)
  | (go_at_call 93; (with_reducible refine (HLK.out _ hv).mono ?_); rintro e w4 ⟨mb, rfl, hmb, hM, hq⟩; have hv := below_up hv hq)
  | (go_at_call 105; (with_reducible refine (HAN.out mb _ hv hM).mono ?_); rintro e w5 ⟨g, cap, rfl, ho, hq⟩; have hv := below_up hv hq))
 go_ret2
 exact ⟨g, cap, rfl, RowE.ofV (E := St.eC) (ca := cap) ho, ho.caps.1, ho.caps.2, below_up HB1.out hv⟩
theorem lostE_is (s : Sto) (a : StA) (mb bk : Nat) (t : TypeId) (d : ByteArray) (w : World) (hI : StIn w s a) (r : St.Right s) (hd : d.size = 16) (hb : Blk w bk #[.int .i64 s.least, .int .i64 s.wait, .slice a.ta s.tiers.length a.tc, .slice a.fa s.files.length a.fc, .slice a.ca s.copies.length a.cc, .slice a.ha s.held.length a.hc, .slice a.ba s.bin.length a.bc, .map (some mb)] t) :
  Calls Tryz.prog 102 #[.string d, .pointer (some ⟨bk, 0, none⟩)] w fun e w' => e = .returned (.bool (decide (0 < (St.goodL s d).length))) ∧ Below w.heap.size w w' := by
 have HGO := Lib.hid (good_is s a mb d w hI r hd)
 unfold TirPost at HGO
 obtain ⟨m0, m1, m2, m3, m4, m5, m6, m7⟩ := hb.eight
 obtain ⟨GL, hGL⟩ : ∃ GL, St.goodL s d = GL := ⟨_, rfl⟩
 rw [hGL] at HGO ⊢
 clear hI r hd hb hGL
 go_enter Tryz.func102, Tryz.ntmps102
 go_wp2_with (go_at_call 103; (with_reducible refine HGO.out.mono ?_); rintro e w3 ⟨g, cap, rfl, ho, hq⟩)
 go_ret
 exact ⟨ret_bool (by simp), hq⟩
theorem enters_lost : ∀ args w, (callFunc 102 args).run Tryz.prog w = .ok (.enter 102 args) w := enters_of Tryz.func102 (by kernel_rfl) rfl
theorem strF_delV (fn : FuncId) (lb : Array Value) (eg : ∀ args w, (callFunc fn args).run Tryz.prog w = .ok (.enter fn args) w) (p : ByteArray → Bool) (B n cap : Nat) (g : Option Addr) (L : List ByteArray) (w : World) (h : OwnV w B 9 1 (.slice g n cap) n (St.eS.flat L)) (hn : n ≤ 1000000) (hL : L.length = n) (HD : ∀ b, DelOk St.eS (fun x => .string x) w b fn lb p L ∨ g ≠ some ⟨b, 0, none⟩) :
  Calls Tryz.prog 87 #[.slice g n cap, .func (.func fn) #[] lb] w fun e w' => e = .returned (.slice g (L.filter (fun y => !p y)).length cap) ∧ OwnV w' B 9 1 (.slice g (L.filter (fun y => !p y)).length cap) (L.filter (fun y => !p y)).length (St.eS.flat (L.filter (fun y => !p y))) ∧ w.grownBy w' (Value.slice g n cap).ownBlock := by
 rcases h with ⟨h1, h2, h3⟩ | ⟨b, cap', h1, hc⟩
 ·cases h1
  obtain rfl := List.eq_nil_of_length_eq_zero hL
  have HIX := Lib.hid (strF_idx fn lb eg p [] none 0 w (RowE.nil _ _ _) ⟨Nat.le_refl _, by decide⟩ (fun V x hx => by cases hx))
  have hz : St.idx p [] 0 = -1 := rfl
  rw [hz, List.length_nil] at HIX
  go_enter Tryz.func87, Tryz.ntmps87
  go_wp2_with (go_at_call 161; (with_reducible refine HIX.out.mono ?_); rintro e w3 ⟨rfl, hB3⟩)
  go_ret
  exact ⟨rfl, .inl ⟨rfl, rfl, rfl⟩, ⟨hB3.os, hB3.tape, hB3.output, hB3.size, fun k hk _ => hB3.block k hk⟩⟩
 ·cases h1
  have hD : DelOk St.eS (fun x => .string x) w b fn lb p L := by
   rcases HD b with h | h
   ·exact h
   ·exact absurd rfl h
  refine (strF_del fn lb eg p B b n cap L w hc hn hL hD).mono fun e w' h => ?_
  obtain ⟨h1, h2, h3⟩ := h
  exact ⟨h1, .inr ⟨b, cap, rfl, h2⟩, h3⟩
theorem lostS_ok (s : Sto) (a : StA) (w : World) (hI : StIn w s a) (r : St.Right s) : Calls Tryz.prog 28 #[.agg #[.int .i64 s.least, .int .i64 s.wait, .slice a.ta s.tiers.length a.tc, .slice a.fa s.files.length a.fc, .slice a.ca s.copies.length a.cc, .slice a.ha s.held.length a.hc, .slice a.ba s.bin.length a.bc]] w (TlOk St.eS w (St.lostL s)) := by
 obtain ⟨W1, hW1, hP, hz1, hB1⟩ := box w #[.int .i64 s.least, .int .i64 s.wait, .slice a.ta s.tiers.length a.tc, .slice a.fa s.files.length a.fc, .slice a.ca s.copies.length a.cc, .slice a.ha s.held.length a.hc, .slice a.ba s.bin.length a.bc] 28
 have HW1 := Lib.hid hW1
 have HI1 := Lib.hid (hI.keep hB1)
 have q0 : W1.cell? ⟨w.heap.size, 0, none⟩ = some (.int .i64 s.least) := (hP.cell 0).trans rfl
 have q1 : W1.cell? ⟨w.heap.size, 1, none⟩ = some (.int .i64 s.wait) := (hP.cell 1).trans rfl
 have q2 : W1.cell? ⟨w.heap.size, 2, none⟩ = some (.slice a.ta s.tiers.length a.tc) := (hP.cell 2).trans rfl
 have q3 : W1.cell? ⟨w.heap.size, 3, none⟩ = some (.slice a.fa s.files.length a.fc) := (hP.cell 3).trans rfl
 have q4 : W1.cell? ⟨w.heap.size, 4, none⟩ = some (.slice a.ca s.copies.length a.cc) := (hP.cell 4).trans rfl
 have q5 : W1.cell? ⟨w.heap.size, 5, none⟩ = some (.slice a.ha s.held.length a.hc) := (hP.cell 5).trans rfl
 have q6 : W1.cell? ⟨w.heap.size, 6, none⟩ = some (.slice a.ba s.bin.length a.bc) := (hP.cell 6).trans rfl
 have HP := Lib.hid hP; have HB1 := Lib.hid hB1
 clear hW1 hP
 obtain ⟨_, y1, y2, y3, y4, y5⟩ := St.sizes_iff.1 r.sizes
 have HCK := Lib.hid (check_is s a W1 HI1.out)
 rw [St.err_iff.2 r] at HCK
 have HLK := Lib.hid (fun V (hv : Below W1.heap.size W1 V) => look_is s a V (HI1.out.keep hv) (by omega))
 have HCL : Hid (∀ W, Below W1.heap.size W1 W → W.cell? ⟨w.heap.size, 0, none⟩ = some (.int .i64 s.least) ∧ W.cell? ⟨w.heap.size, 1, none⟩ = some (.int .i64 s.wait) ∧ W.cell? ⟨w.heap.size, 2, none⟩ = some (.slice a.ta s.tiers.length a.tc) ∧ W.cell? ⟨w.heap.size, 3, none⟩ = some (.slice a.fa s.files.length a.fc) ∧ W.cell? ⟨w.heap.size, 4, none⟩ = some (.slice a.ca s.copies.length a.cc) ∧ W.cell? ⟨w.heap.size, 5, none⟩ = some (.slice a.ha s.held.length a.hc) ∧ W.cell? ⟨w.heap.size, 6, none⟩ = some (.slice a.ba s.bin.length a.bc)) := Lib.hid fun W hb => (HP.out.keep hb).seven
 have HAN := Lib.hid (fun mb V (hv : Below W1.heap.size W1 V) (hM : FMap V mb s.files) => allNeeded_is s a mb V (HI1.out.keep hv) hM r)
 unfold DigPost at HAN
 have HR := Lib.hid r
 have hnl := St.neededL_len s
 have HLO : Hid ((St.neededL s).filter (fun y => !decide (0 < (St.goodL s y).length)) = St.lostL s) := Lib.hid (by
  unfold St.lostL
  congr 1
  funext y
  cases (St.goodL s y).length <;> simp)
 have HN16 := Lib.hid (fun d (hd : d ∈ St.neededL s) => St.needed_16 r hd)
 obtain ⟨NL, hNL⟩ : ∃ NL, St.neededL s = NL := ⟨_, rfl⟩
 rw [hNL] at HAN HLO HN16 hnl
 obtain ⟨n, hn⟩ : ∃ n, NL.length = n := ⟨_, rfl⟩
 have HNN := Lib.hid hn
 rw [hn] at HAN hnl
 have hn6 : n ≤ 1000000 := by omega
 clear hI r hz1 y1 y2 y3 y4 y5 hNL hn hnl
 go_enter Tryz.func28, Tryz.ntmps28
 go_upto_region 1 with fail
 rw [HW1.out]
 go_upto_region 5 with (first
  | (go_at_call 32; (with_reducible refine HCK.out.mono ?_); rintro e w3 ⟨rfl, hv⟩; obtain ⟨q0, q1, q2, q3, q4, q5, q6⟩ := HCL.out _ hv)
  | (go_at_call 93; (with_reducible refine (HLK.out _ hv).mono ?_); rintro e w4 ⟨mb, rfl, hmb, hM, hq⟩; have hv := below_up hv hq))
 obtain ⟨W5, hW5, hX5, hz5, hB5⟩ := box w4 #[.int .i64 s.least, .int .i64 s.wait, .slice a.ta s.tiers.length a.tc, .slice a.fa s.files.length a.fc, .slice a.ca s.copies.length a.cc, .slice a.ha s.held.length a.hc, .slice a.ba s.bin.length a.bc, .map (some mb)] 135
 have HW5 := Lib.hid hW5; have HX5 := Lib.hid hX5
 have HV5 := Lib.hid (below_up hv hB5)
 have HM5 := Lib.hid (hM.keep hB5)
 rw [HW5.out]
 obtain ⟨m0, m1, m2, m3, m4, m5, m6, m7⟩ := hX5.eight
 clear hW5 hX5 hz5 hB5 q0 q1 q2 q3 q4 q5 q6 hv hM hq hmb
 go_upto_region 6 with (first
  | (go_at_call 99; (with_reducible refine (HAN.out mb _ HV5.out HM5.out).mono ?_); rintro e w6 ⟨g, cap, rfl, ho, hq⟩; have hfl := ho.lt; have HDE : ∀ b, DelOk St.eS (fun x => .string x) w6 b 102 #[.pointer (some ⟨w4.heap.size, 0, none⟩)] (fun y => decide (0 < (St.goodL s y).length)) NL ∨ g ≠ some ⟨b, 0, none⟩ := (fun b => by
    by_cases hgb : g = some ⟨b, 0, none⟩
    ·left
     subst hgb
     intro V x hx hg
     have hbW := (hfl b rfl).1
     have hvV : Below W5.heap.size W5 V := hq.grown hg hq.size (fun k e => by cases e; exact hbW)
     exact lostE_is s a mb w4.heap.size _ x V (HI1.out.keep (below_up HV5.out hvV)) HR.out (HN16.out x hx) (HX5.out.keep hvV)
    ·exact .inr hgb); have HDL := Lib.hid (strF_delV 102 #[.pointer (some ⟨w4.heap.size, 0, none⟩)] enters_lost (fun y => decide (0 < (St.goodL s y).length)) W5.heap.size n cap g NL w6 ho hn6 HNN.out HDE); rw [HLO.out] at HDL; have HQ6 := Lib.hid hq; have HOL := Lib.hid hfl; clear HDE ho hq hfl)
  | (go_at_call 87; (with_reducible refine HDL.out.mono ?_); rintro e w7 ⟨rfl, ho7, hg7⟩))
 have hB7 := HQ6.out.grown hg7 HQ6.out.size (fun b e => (HOL.out b e).1)
 obtain ⟨l1, l2⟩ := ho7.caps
 have HRE := Lib.hid (RowE.ofV (E := St.eS) (ca := cap) ho7)
 have HBZ := Lib.hid (below_up HB1.out (below_up HV5.out hB7))
 clear ho7 hg7
 go_wp2_with (go_at_call 104; (with_reducible refine (clnS_clip _ _ _ _ l1 l2).mono ?_); rintro e wc ⟨rfl, rfl⟩)
 go_ret2
 exact ⟨g, _, rfl, HRE.out, Nat.le_refl _, by omega, HBZ.out⟩
theorem infoLck : (Tryz.prog.info? 70).map (fun i => (i.zero, i.size, i.bytes)) = some (some (.agg #[.string ByteArray.empty, .int .i64 0, .int .i64 0]), 3, 32) := by kernel_rfl

theorem list_appL {ops : Array Oper} {rest : List Oper} {o : Oper} {a : Act} {V : World} {cs : Array Value} {Q : Exit → Act → World → Prop} (hgd : o.guard = none) (s x : Operand)
  (ho : o.op = .call { callee := .builtin .append, args := #[s, x], argTypes := #[58, 58] }) (base : Nat) (v : Value) (n : Nat) (xs : List Value) (hs : a.eval s = v) (hx : a.eval x = .slice (some ⟨V.heap.size, 0, none⟩) 1 1)
  (hown : V.ownsRow base 70 3 v n xs) (hn : n ≤ 1000000) (hb : base ≤ V.heap.size) (hcs : cs.toList.length = 1 * 3) (h1 : ∀ u ∈ cs.toList, u.oneCell' = true)
  (h : ∀ g cap w', w'.ownsRow base 70 3 (.slice (some ⟨g, 0, none⟩) (n + 1) cap) (n + 1) (xs ++ cs.toList) → (V.alloc (.cells cs 70)).grownBy w' v.ownBlock → wpList Tryz.prog ops Q rest (a.put o.dst (.slice (some ⟨g, 0, none⟩) (n + 1) cap)) w') :
  wpList Tryz.prog ops Q (o :: rest) a (V.alloc (.cells cs 70)) := by
 obtain ⟨i0, hi0, hi1, hi2, hi3⟩ := info_parts infoLck
 exact wpList_append_own2 _ hgd s x _ ho base 70 i0 (.agg #[.string ByteArray.empty, .int .i64 0, .int .i64 0]) 3 32 Tryz.underlying58 hi0 hi1 hi2 hi3 rfl (by decide) v n xs hs (hown.alloc _) ⟨V.heap.size, 0, none⟩ 1 1 cs.toList hx (by decide) hcs
  (World.news_of_block (cs := cs) (t := 70) (fr := (0, 0)) (Blk.new V cs 70)) h1 (by unfold maxLen; omega) (by omega) (by simp; omega) (fun g cap w' h1 h2 _ => h g cap w' h1 h2)
theorem clnL_clip (a : Option Addr) (n ca : Nat) (w : World) (h : n ≤ ca) (hc : ca ≤ 9223372036854775807) : Calls Tryz.prog 101 #[.slice a n ca] w fun e w' => e = .returned (.slice a n n) ∧ w = w' := by
 go_enter Tryz.func101, Tryz.ntmps101
 go_wp2_with fail
 go_ret
 exact ⟨rfl, rfl⟩
theorem St.filtmap_take {α β : Type} {p : α → Bool} {f : α → β} {L : List α} {j : Nat} {x : α} (h : L[j]? = some x) : ((L.take (j + 1)).filter p).map f = ((L.take j).filter p).map f ++ (if p x = true then [f x] else []) := by
 rw [St.filter_take h, List.map_append]
 congr 1
 split <;> rfl
theorem shortS_ok (s : Sto) (a : StA) (w : World) (hI : StIn w s a) (r : St.Right s) : Calls Tryz.prog 27 #[.agg #[.int .i64 s.least, .int .i64 s.wait, .slice a.ta s.tiers.length a.tc, .slice a.fa s.files.length a.fc, .slice a.ca s.copies.length a.cc, .slice a.ha s.held.length a.hc, .slice a.ba s.bin.length a.bc]] w (TlOk St.eL w (St.shortC s)) := by
 obtain ⟨W1, hW1, hP, hz1, hB1⟩ := box w #[.int .i64 s.least, .int .i64 s.wait, .slice a.ta s.tiers.length a.tc, .slice a.fa s.files.length a.fc, .slice a.ca s.copies.length a.cc, .slice a.ha s.held.length a.hc, .slice a.ba s.bin.length a.bc] 28
 have HW1 := Lib.hid hW1
 have HI1 := Lib.hid (hI.keep hB1)
 have q0 : W1.cell? ⟨w.heap.size, 0, none⟩ = some (.int .i64 s.least) := (hP.cell 0).trans rfl
 have q1 : W1.cell? ⟨w.heap.size, 1, none⟩ = some (.int .i64 s.wait) := (hP.cell 1).trans rfl
 have q2 : W1.cell? ⟨w.heap.size, 2, none⟩ = some (.slice a.ta s.tiers.length a.tc) := (hP.cell 2).trans rfl
 have q3 : W1.cell? ⟨w.heap.size, 3, none⟩ = some (.slice a.fa s.files.length a.fc) := (hP.cell 3).trans rfl
 have q4 : W1.cell? ⟨w.heap.size, 4, none⟩ = some (.slice a.ca s.copies.length a.cc) := (hP.cell 4).trans rfl
 have q5 : W1.cell? ⟨w.heap.size, 5, none⟩ = some (.slice a.ha s.held.length a.hc) := (hP.cell 5).trans rfl
 have q6 : W1.cell? ⟨w.heap.size, 6, none⟩ = some (.slice a.ba s.bin.length a.bc) := (hP.cell 6).trans rfl
 have HP := Lib.hid hP; have HB1 := Lib.hid hB1
 clear hW1 hP
 obtain ⟨_, y1, y2, y3, y4, y5⟩ := St.sizes_iff.1 r.sizes
 have HCK := Lib.hid (check_is s a W1 HI1.out)
 rw [St.err_iff.2 r] at HCK
 have HLK := Lib.hid (fun V (hv : Below W1.heap.size W1 V) => look_is s a V (HI1.out.keep hv) (by omega))
 have HCL : Hid (∀ W, Below W1.heap.size W1 W → W.cell? ⟨w.heap.size, 0, none⟩ = some (.int .i64 s.least) ∧ W.cell? ⟨w.heap.size, 1, none⟩ = some (.int .i64 s.wait) ∧ W.cell? ⟨w.heap.size, 2, none⟩ = some (.slice a.ta s.tiers.length a.tc) ∧ W.cell? ⟨w.heap.size, 3, none⟩ = some (.slice a.fa s.files.length a.fc) ∧ W.cell? ⟨w.heap.size, 4, none⟩ = some (.slice a.ca s.copies.length a.cc) ∧ W.cell? ⟨w.heap.size, 5, none⟩ = some (.slice a.ha s.held.length a.hc) ∧ W.cell? ⟨w.heap.size, 6, none⟩ = some (.slice a.ba s.bin.length a.bc)) := Lib.hid fun W hb => (HP.out.keep hb).seven
 have HAN := Lib.hid (fun mb V (hv : Below W1.heap.size W1 V) (hM : FMap V mb s.files) => allNeeded_is s a mb V (HI1.out.keep hv) hM r)
 unfold DigPost at HAN
 have HR := Lib.hid r
 have hnl := St.neededL_len s
 have HLA := Lib.hid (fun mb d (hd : d ∈ St.neededL s) V (hv : Below W1.heap.size W1 V) => lack_is s a mb d V (HI1.out.keep hv) r (St.needed_16 r hd))
 have HSC : Hid (St.shortC s = ((St.neededL s).filter (St.short s)).map (St.lackOf s)) := Lib.hid rfl
 obtain ⟨NL, hNL⟩ : ∃ NL, St.neededL s = NL := ⟨_, rfl⟩
 rw [hNL] at HAN HSC HLA hnl
 obtain ⟨n, hn⟩ : ∃ n, NL.length = n := ⟨_, rfl⟩
 have HNN := Lib.hid hn
 rw [hn] at HAN hnl
 have hn6 : n ≤ 1000000 := by omega
 have HS1 := Lib.hid hz1
 clear hI r hz1 y1 y2 y3 y4 y5 hNL hn hnl
 go_enter Tryz.func27, Tryz.ntmps27
 go_upto_region 1 with fail
 rw [HW1.out]
 go_upto_region 5 with (first
  | (go_at_call 32; (with_reducible refine HCK.out.mono ?_); rintro e w3 ⟨rfl, hv⟩; obtain ⟨q0, q1, q2, q3, q4, q5, q6⟩ := HCL.out _ hv)
  | (go_at_call 93; (with_reducible refine (HLK.out _ hv).mono ?_); rintro e w4 ⟨mb, rfl, hmb, hM, hq⟩; have hv := below_up hv hq))
 obtain ⟨W5, hW5, hX5, hz5, hB5⟩ := box w4 #[.int .i64 s.least, .int .i64 s.wait, .slice a.ta s.tiers.length a.tc, .slice a.fa s.files.length a.fc, .slice a.ca s.copies.length a.cc, .slice a.ha s.held.length a.hc, .slice a.ba s.bin.length a.bc, .map (some mb)] 135
 have HW5 := Lib.hid hW5; have HX5 := Lib.hid hX5
 have HV5 := Lib.hid (below_up hv hB5)
 have HM5 := Lib.hid (hM.keep hB5)
 rw [HW5.out]
 obtain ⟨m0, m1, m2, m3, m4, m5, m6, m7⟩ := hX5.eight
 clear hW5 hX5 hz5 hB5 q0 q1 q2 q3 q4 q5 q6 hv hM hq hmb
 go_wp2_with (go_at_call 99; (with_reducible refine (HAN.out mb _ HV5.out HM5.out).mono ?_); rintro e w6 ⟨A, ca, rfl, ho, hq⟩)
 have HRE : Hid (RowE St.eS w6 A NL) := Lib.hid (RowE.ofV (E := St.eS) (ca := ca) (by rw [HNN.out]; exact ho))
 have HX6 := Lib.hid (HX5.out.keep hq)
 have HV6 := Lib.hid (below_up HV5.out hq)
 clear ho hq m0 m1 m2 m3 m4 m5 m6 m7
 go_loopg [6, 21] n (fun gk v i wr => ∃ j : Nat, j ≤ n ∧ gk = n - j ∧ i = .int .i64 j ∧ wr.ownsRow w6.heap.size 70 3 v (((NL.take j).filter (St.short s)).map (St.lackOf s)).length (St.eL.flat (((NL.take j).filter (St.short s)).map (St.lackOf s))) ∧ Below w6.heap.size w6 wr)
 case atStart => exact ⟨0, by omega, rfl, rfl, World.ownsRow_nil _ _ _ _, Below.refl _ _⟩
 case round =>
  obtain ⟨j, hj, rfl, rfl, hown, hB⟩ := hrel
  by_cases hlt : j < n
  ·obtain ⟨x, hx⟩ : ∃ x, NL[j]? = some x := ⟨_, List.getElem?_eq_getElem (by rw [HNN.out]; exact hlt)⟩
   obtain ⟨b, off, ha, hb, hcell⟩ := (HRE.out.keep hB) (by rw [HNN.out]; omega)
   have c0 : wr.cell? ⟨b, off + j, none⟩ = some (.string x) := by have := hcell j x hx 0 (.string x) rfl; rw [show off + j * St.eS.k + 0 = off + j by simp [St.eS]] at this; exact this
   have hft := St.filtmap_take (p := St.short s) (f := St.lackOf s) hx
   have hfl : (((NL.take j).filter (St.short s)).map (St.lackOf s)).length ≤ NL.length := by rw [List.length_map]; exact St.filter_len j
   rw [HNN.out] at hfl
   have HLX := Lib.hid (HLA.out mb x (List.mem_of_getElem? hx) wr (below_up HV6.out hB))
   obtain ⟨m0, m1, m2, m3, m4, m5, m6, m7⟩ := (HX6.out.keep hB).eight
   have hj0 : (0 : Int) ≤ (j : Int) := by omega
   have hj1 : (j : Int) < (n : Int) := by omega
   have hlo : St.lackOf s x = ⟨x, ((St.goodL s x).length : Nat), (St.awayN (St.goodL s x) : Nat)⟩ := rfl
   have HFT := Lib.hid hft
   generalize (((NL.take j).filter (St.short s)).map (St.lackOf s)) = G at *
   obtain ⟨mg, hmg⟩ : ∃ mg : Int, ((St.goodL s x).length : Int) = mg := ⟨_, rfl⟩
   obtain ⟨ma, hma⟩ : ∃ ma : Int, (St.awayN (St.goodL s x) : Int) = ma := ⟨_, rfl⟩
   rw [hmg, hma] at HLX hlo
   obtain ⟨sb, hsb⟩ : ∃ sb, St.short s x = sb := ⟨_, rfl⟩
   rw [hsb] at HLX HFT
   rw [hlo] at HFT
   obtain ⟨FL, hFL⟩ : ∃ FL, St.eL.flat G = FL := ⟨_, rfl⟩
   obtain ⟨m, hm⟩ : ∃ m, G.length = m := ⟨_, rfl⟩
   have HFL : Hid (St.eL.flat (G ++ [⟨x, mg, ma⟩]) = FL ++ [.string x, .int .i64 mg, .int .i64 ma]) := Lib.hid (by rw [Enc.flat_snoc, hFL]; rfl)
   have HM : Hid ((G ++ [(⟨x, mg, ma⟩ : Lck)]).length = m + 1) := Lib.hid (by rw [List.length_append, hm]; rfl)
   have HMF := Lib.hid (And.intro hm hFL)
   have HOW := Lib.hid hown
   rw [hFL, hm] at HOW
   rw [hm] at hfl
   have HBW := Lib.hid hB
   clear hx hft hcell hmg hma hlo hsb hFL hm hown
   rw [ha]
   go_upto_region 10 with (go_at_call 100; (with_reducible refine HLX.out.mono ?_); rintro e w7 ⟨rfl, hq7⟩)
   obtain ⟨W8, hW8, hX8, hz8, hB8⟩ := box w7 #[.string x, .int .i64 mg, .int .i64 ma] 70
   have HW8 := Lib.hid hW8
   rw [HW8.out]
   obtain ⟨e0, e1, e2⟩ := hX8.three
   have hq8 := below_up hq7 hB8
   have HO8 := own_keepE HOW.out hq8
   have hB68 := below_up HBW.out hq8
   have hs8 := hB68.size
   clear hW8 hX8 hz8 hB8 m0 m1 m2 m3 m4 m5 m6 m7 c0
   cases sb
   ·go_wp2_with fail
    rw [← ha]
    go_roundg (n - (j + 1))
    case rel => exact ⟨j + 1, by omega, rfl, by go_num, by rw [HFT.out, if_neg (by decide), List.append_nil, HMF.out.1, HMF.out.2]; exact HO8, hB68⟩
    case measure => omega
   ·go_wp2_with (at_builtin; refine list_appL rfl _ _ rfl _ _ m FL (by rfl) (by rfl) HO8 (by omega) (by omega) (by rfl) (by simp [Value.oneCell']) ?_; intro g8 cap8 w8 hown8 hgrow8; have hB9 := below_grownE (below_allocs hB68 _) (HO8.alloc _) hgrow8 (by simp; omega))
    rw [← ha]
    go_roundg (n - (j + 1))
    case rel => exact ⟨j + 1, by omega, rfl, by go_num, by rw [HFT.out, if_pos (by first | rfl | trivial), HFL.out, HM.out]; exact hown8, hB9⟩
    case measure => omega
  ·obtain rfl : n = j := by omega
   rw [← HNN.out, List.take_length, ← HSC.out] at hown
   have HOV := Lib.hid (OwnV.of_own hown)
   obtain ⟨g, cap, rfl⟩ := ownV_slice (OwnV.of_own hown)
   obtain ⟨l1, l2⟩ := HOV.out.caps
   have HRZ := Lib.hid (RowE.ofV (E := St.eL) (ca := cap) HOV.out)
   clear hown
   go_wp2_with (go_at_call 101; (with_reducible refine (clnL_clip _ _ _ _ l1 l2).mono ?_); rintro e wc ⟨rfl, rfl⟩)
   go_ret2
   exact ⟨g, _, rfl, HRZ.out, Nat.le_refl _, by omega, below_up HB1.out (below_up HV6.out hB)⟩
structure StOff (a : StA) (q : Nat) : Prop where
 ti : (Value.slice a.ta 0 0).ownBlock ≠ some q
 fi : (Value.slice a.fa 0 0).ownBlock ≠ some q
 co : (Value.slice a.ca 0 0).ownBlock ≠ some q
 he : (Value.slice a.ha 0 0).ownBlock ≠ some q
 bi : (Value.slice a.ba 0 0).ownBlock ≠ some q
theorem ownBlock_len (a : Option Addr) (n c n' c' : Nat) : (Value.slice a n c).ownBlock = (Value.slice a n' c').ownBlock := by cases a <;> rfl
theorem StOwn.off {w : World} {B q : Nat} {s : Sto} {a : StA} (h : StOwn w B s a) (hq : w.heap.size ≤ q) : StOff a q :=
 ⟨fun e => by have := (h.ti.lt q ((ownBlock_len _ _ _ 0 0).trans e)).2; omega, fun e => by have := (h.fi.lt q ((ownBlock_len _ _ _ 0 0).trans e)).2; omega, fun e => by have := (h.co.lt q ((ownBlock_len _ _ _ 0 0).trans e)).2; omega, fun e => by have := (h.he.lt q ((ownBlock_len _ _ _ 0 0).trans e)).2; omega, fun e => by have := (h.bi.lt q ((ownBlock_len _ _ _ 0 0).trans e)).2; omega⟩
theorem flat_insC (L : List Cop) (x : Cop) (p : Nat) : (St.eC.flat L).take (p * 4) ++ [.string x.dig, .string x.tier, .bool x.good, .int .i64 x.asked] ++ (St.eC.flat L).drop (p * 4) = St.eC.flat (L.take p ++ x :: L.drop p) := by
 have h1 := Enc.flat_take St.eC L p
 have h2 := Enc.flat_drop St.eC L p
 have h3 : St.eC.k = 4 := rfl
 rw [h3] at h1 h2
 rw [h1, h2, Enc.flat_append, Enc.flat_cons, List.append_assoc]; rfl
theorem flat_putC (L : List Cop) (x : Cop) (p : Nat) (hp : p < L.length) : St.eC.flat (L.set p x) = (((((St.eC.flat L).set (p * 4) (.string x.dig)).set (p * 4 + 1) (.string x.tier)).set (p * 4 + 2) (.bool x.good)).set (p * 4 + 3) (.int .i64 x.asked)) := by
 have h0 : L[p]? = some (L[p]'hp) := List.getElem?_eq_getElem _
 generalize (L[p]'hp) = y at h0
 have e0 : St.eC.flat ((L).set p (⟨x.dig, y.tier, y.good, y.asked⟩ : Cop)) = (St.eC.flat (L)).set (p * 4 + 0) (.string x.dig) := Enc.flat_set1 St.eC (.string x.dig) 0 (by decide) y (⟨x.dig, y.tier, y.good, y.asked⟩ : Cop) rfl _ p h0
 have e1 : St.eC.flat (((L).set p (⟨x.dig, y.tier, y.good, y.asked⟩ : Cop)).set p (⟨x.dig, x.tier, y.good, y.asked⟩ : Cop)) = (St.eC.flat ((L).set p (⟨x.dig, y.tier, y.good, y.asked⟩ : Cop))).set (p * 4 + 1) (.string x.tier) := Enc.flat_set1 St.eC (.string x.tier) 1 (by decide) (⟨x.dig, y.tier, y.good, y.asked⟩ : Cop) (⟨x.dig, x.tier, y.good, y.asked⟩ : Cop) rfl _ p (by rw [List.getElem?_set_self (by simpa using hp)])
 have e2 : St.eC.flat ((((L).set p (⟨x.dig, y.tier, y.good, y.asked⟩ : Cop)).set p (⟨x.dig, x.tier, y.good, y.asked⟩ : Cop)).set p (⟨x.dig, x.tier, x.good, y.asked⟩ : Cop)) = (St.eC.flat (((L).set p (⟨x.dig, y.tier, y.good, y.asked⟩ : Cop)).set p (⟨x.dig, x.tier, y.good, y.asked⟩ : Cop))).set (p * 4 + 2) (.bool x.good) := Enc.flat_set1 St.eC (.bool x.good) 2 (by decide) (⟨x.dig, x.tier, y.good, y.asked⟩ : Cop) (⟨x.dig, x.tier, x.good, y.asked⟩ : Cop) rfl _ p (by rw [List.getElem?_set_self (by simpa using hp)])
 have e3 : St.eC.flat (((((L).set p (⟨x.dig, y.tier, y.good, y.asked⟩ : Cop)).set p (⟨x.dig, x.tier, y.good, y.asked⟩ : Cop)).set p (⟨x.dig, x.tier, x.good, y.asked⟩ : Cop)).set p x) = (St.eC.flat ((((L).set p (⟨x.dig, y.tier, y.good, y.asked⟩ : Cop)).set p (⟨x.dig, x.tier, y.good, y.asked⟩ : Cop)).set p (⟨x.dig, x.tier, x.good, y.asked⟩ : Cop))).set (p * 4 + 3) (.int .i64 x.asked) := Enc.flat_set1 St.eC (.int .i64 x.asked) 3 (by decide) (⟨x.dig, x.tier, x.good, y.asked⟩ : Cop) x rfl _ p (by rw [List.getElem?_set_self (by simpa using hp)])
 simp only [List.set_set] at e0 e1 e2 e3
 rw [e3, e2, e1, e0]; rfl
theorem withC_is (L : List Cop) (hu : St.Up St.ckey L) (hz : ∀ x ∈ L, x.dig.size ≤ 100 ∧ x.tier.size ≤ 100) (h1m : L.length ≤ 900000) (x : Cop) (hzx : x.dig.size ≤ 100 ∧ x.tier.size ≤ 100) (a : Option Addr) (ca : Nat) (w : World) (hl : L.length ≤ ca ∧ ca ≤ 9223372036854775807) (hr : RowE St.eC w a L) :
  Calls Tryz.prog 57 #[.agg #[.func (.func 144) #[] #[], .slice a L.length ca], .agg #[.string x.dig, .string x.tier, .bool x.good, .int .i64 x.asked]] w (ClnPost St.eC 74 w (St.wth St.ckey x L)) := by
 obtain ⟨W1, hW1, hP, hz1, hB1⟩ := box w #[.func (.func 144) #[] #[], .slice a L.length ca] 97
 obtain ⟨W2, hW2, hX, hz2, hB2⟩ := box W1 #[.string x.dig, .string x.tier, .bool x.good, .int .i64 x.asked] 74
 rw [hz1] at hX
 have hP := hP.keep hB2
 have HW1 := Lib.hid hW1; have HW2 := Lib.hid hW2; have HBB := Lib.hid (below_up hB1 hB2); have HZS : Hid (w.heap.size ≤ W2.heap.size) := Lib.hid HBB.out.size
 have HCL : Hid (∀ V, Below W2.heap.size W2 V → V.cell? ⟨w.heap.size, 0, none⟩ = some (.func (.func 144) #[] #[]) ∧ V.cell? ⟨w.heap.size, 1, none⟩ = some (.slice a L.length ca) ∧ V.cell? ⟨w.heap.size + 1, 0, none⟩ = some (.string x.dig) ∧ V.cell? ⟨w.heap.size + 1, 1, none⟩ = some (.string x.tier) ∧ V.cell? ⟨w.heap.size + 1, 2, none⟩ = some (.bool x.good) ∧ V.cell? ⟨w.heap.size + 1, 3, none⟩ = some (.int .i64 x.asked)) := Lib.hid fun V hv => ⟨((hP.keep hv).cell 0).trans rfl, ((hP.keep hv).cell 1).trans rfl, ((hX.keep hv).cell 0).trans rfl, ((hX.keep hv).cell 1).trans rfl, ((hX.keep hv).cell 2).trans rfl, ((hX.keep hv).cell 3).trans rfl⟩
 have HK := Lib.hid (fun V => keyKC_is x hzx V)
 have HPL := Lib.hid (fun V (hv : Below W2.heap.size W2 V) => placeC_is L hu hz (by omega) (St.ckey x) a ca V hl ((hr.keep HBB.out).keep hv))
 have HCN := Lib.hid (fun V (hv : Below W2.heap.size W2 V) => clnC_is (L := L) a ca V ((hr.keep HBB.out).keep hv) (by omega))
 unfold ClnPost at HCN
 have HW : Hid (St.wth St.ckey x L = if St.hasK St.ckey L (St.ckey x) = true then L.set (St.pos St.ckey (St.ckey x) L) x else L.take (St.pos St.ckey (St.ckey x) L) ++ x :: L.drop (St.pos St.ckey (St.ckey x) L)) := Lib.hid rfl
 have hpl := St.pos_le St.ckey (St.ckey x) L
 have HPT := Lib.hid (fun h : St.hasK St.ckey L (St.ckey x) = true => St.hasK_at hu h)
 obtain ⟨p, hp⟩ : ∃ p, St.pos St.ckey (St.ckey x) L = p := ⟨_, rfl⟩
 obtain ⟨hb, hhb⟩ : ∃ hb, St.hasK St.ckey L (St.ckey x) = hb := ⟨_, rfl⟩
 rw [hp, hhb] at HPL HW HPT
 rw [hp] at hpl
 obtain ⟨n, hn⟩ : ∃ n, L.length = n := ⟨_, rfl⟩
 have HN := Lib.hid hn
 rw [hn] at hl hpl h1m HCL HPL HCN HW1 ⊢
 have eg := entersKC
 have hmf : ∀ (fn : Fn) (first cap : Array Value) (w : World), (Instr.makeFunc fn first cap).run Tryz.prog w = .ok (.func fn first cap) w := fun _ _ _ _ => rfl
 clear hr hW1 hP hz1 hB1 hu hz hzx hW2 hX hz2 hB2 hp hhb hn
 go_enter Tryz.func57, Tryz.ntmps57
 go_upto_region 1 with fail
 rw [HW1.out, HW2.out]
 have hv : Below W2.heap.size W2 W2.drew := (Below.refl _ _).drew
 obtain ⟨r0, r1, x0, x1, x2, x3⟩ := HCL.out _ hv
 go_region_held3 (fun W => W.cell? ⟨w.heap.size, 0, none⟩ = some (.func (.func 144) #[] #[]) ∧ W.cell? ⟨w.heap.size, 1, none⟩ = some (.slice a n ca) ∧ W.cell? ⟨w.heap.size + 1, 0, none⟩ = some (.string x.dig) ∧ W.cell? ⟨w.heap.size + 1, 1, none⟩ = some (.string x.tier) ∧ W.cell? ⟨w.heap.size + 1, 2, none⟩ = some (.bool x.good) ∧ W.cell? ⟨w.heap.size + 1, 3, none⟩ = some (.int .i64 x.asked))
  (first | (with_reducible exact ⟨r0, r1, x0, x1, x2, x3⟩) | go_keep)
  (first
   | (go_at_fn 144; (with_reducible refine (HK.out _).mono ?_); rintro e wq ⟨rfl, hq⟩; have hv := below_up hv hq; obtain ⟨r0, r1, x0, x1, x2, x3⟩ := HCL.out _ hv)
   | (go_at_call 55; (with_reducible refine (HPL.out _ hv).mono ?_); rintro e wp ⟨rfl, hq⟩; have hv := below_up hv hq; obtain ⟨r0, r1, x0, x1, x2, x3⟩ := HCL.out _ hv)
   | fail)
 have hp0 : (0 : Int) ≤ (p : Int) := by omega
 cases hb
 ·have hW := HW.out
  rw [if_neg (by decide)] at hW
  have HWL : Hid (St.wth St.ckey x L = L.take p ++ x :: L.drop p) := Lib.hid hW
  have HWN : Hid ((L.take p ++ x :: L.drop p).length = n + 1) := Lib.hid (by rw [List.length_append, List.length_cons, List.length_take, List.length_drop, HN.out]; omega)
  clear hW
  go_upto_region 6 with fail
  have hvB := (below_allocs hv (.cells #[.string x.dig, .string x.tier, .bool x.good, .int .i64 x.asked] 74)).drew
  have HNB := Lib.hid (Blk.new wp #[.string x.dig, .string x.tier, .bool x.good, .int .i64 x.asked] 74).drew
  have hsB : (wp.alloc (.cells #[.string x.dig, .string x.tier, .bool x.good, .int .i64 x.asked] 74)).drew.heap.size = wp.heap.size + 1 := by simp
  have hv := hv.drew
  clear r0 r1 x0 x1 x2 x3
  obtain ⟨r0, r1, x0, x1, x2, x3⟩ := HCL.out _ hv
  have hvs := hv.size
  go_region_held3 (fun W => W.cell? ⟨w.heap.size, 0, none⟩ = some (.func (.func 144) #[] #[]) ∧ W.cell? ⟨w.heap.size, 1, none⟩ = some (.slice a n ca) ∧ W.cell? ⟨w.heap.size + 1, 0, none⟩ = some (.string x.dig) ∧ W.cell? ⟨w.heap.size + 1, 1, none⟩ = some (.string x.tier) ∧ W.cell? ⟨w.heap.size + 1, 2, none⟩ = some (.bool x.good) ∧ W.cell? ⟨w.heap.size + 1, 3, none⟩ = some (.int .i64 x.asked))
   (first | (with_reducible exact ⟨r0, r1, x0, x1, x2, x3⟩) | go_keep)
   (first
    | (go_at_call 139; (with_reducible refine (HCN.out _ hv).mono ?_); rintro e w4 ⟨g4, c4, rfl, ho4, hq⟩; have hs4 := hv.size; have HO4 : Hid (OwnV w4 w.heap.size 74 4 (.slice g4 n c4) n (St.eC.flat L)) := Lib.hid (ho4.down (Nat.le_trans HZS.out hs4)); have hv := below_up hv hq; obtain ⟨r0, r1, x0, x1, x2, x3⟩ := HCL.out _ hv; have HV4 := Lib.hid hv; have HINS := Lib.hid (fun V (hb : Below w4.heap.size w4 V) (bv : Nat) (hbv : V.heap[bv]? = some (.cells #[.string x.dig, .string x.tier, .bool x.good, .int .i64 x.asked] 74 (0, 0))) (hge : w4.heap.size ≤ bv) => cp_ins w.heap.size n p (.slice g4 n c4) (St.eC.flat L) [.string x.dig, .string x.tier, .bool x.good, .int .i64 x.asked] V (HO4.out.keep hb) (by have := HZS.out; have := HV4.out.size; have := hb.size; omega) hpl (by omega) (Enc.flat_one St.eC L) bv _ _ hbv (fun e => by have := (HO4.out.lt bv e).2; omega) rfl rfl (by simp [Value.oneCell'])); rw [flat_insC] at HINS; have HO2 : Hid (OwnV w4 W2.heap.size 74 4 (.slice g4 n c4) n (St.eC.flat L)) := Lib.hid (ho4.down hs4); clear ho4 hq)
    | (go_at_call 139; (with_reducible refine (HCN.out _ hvB).mono ?_); rintro e w4 ⟨g4, c4, rfl, ho4, hq⟩; have hs4 := hvB.size; have HO4 : Hid (OwnV w4 w.heap.size 74 4 (.slice g4 n c4) n (St.eC.flat L)) := Lib.hid (ho4.down (Nat.le_trans HZS.out hs4)); have HO2 : Hid (OwnV w4 W2.heap.size 74 4 (.slice g4 n c4) n (St.eC.flat L)) := Lib.hid (ho4.down hs4); have hv := below_up hvB hq; obtain ⟨r0, r1, x0, x1, x2, x3⟩ := HCL.out _ hv; have HV4 := Lib.hid hv; have HINB := Lib.hid (cp_ins w.heap.size n p (.slice g4 n c4) (St.eC.flat L) [.string x.dig, .string x.tier, .bool x.good, .int .i64 x.asked] w4 HO4.out (by have := HZS.out; have := HV4.out.size; omega) hpl (by omega) (Enc.flat_one St.eC L) wp.heap.size _ _ (HNB.out.keep hq) (fun e => by have := (ho4.lt wp.heap.size e).1; omega) rfl rfl (by simp [Value.oneCell'])); rw [flat_insC] at HINB; clear ho4 hq)
    | (go_at_call 148; (with_reducible refine (HINS.out _ (below_allocs (Below.refl _ _) _) _ (heap_alloc_new _ _) (Nat.le_refl _)).mono ?_); rintro e w8 ⟨g8, c8, rfl, hc8, hg8, hn8⟩; have HC8 := Lib.hid hc8; have l1 : n + 1 ≤ c8 := (by obtain ⟨_, _, _, h, _⟩ := HC8.out; exact h); have l2 : c8 ≤ 9223372036854775807 := (by obtain ⟨_, _, _, _, h, _⟩ := HC8.out; exact h); have HF := Lib.hid (below_ownI (below_allocs (below_up HBB.out HV4.out) (.cells #[.string x.dig, .string x.tier, .bool x.good, .int .i64 x.asked] 74)) (HO4.out.keep (below_allocs (Below.refl _ w4) (.cells #[.string x.dig, .string x.tier, .bool x.good, .int .i64 x.asked] 74))) hg8 (by have := HZS.out; have := HV4.out.size; simp; omega)); have hv := below_ownI (below_allocs HV4.out (.cells #[.string x.dig, .string x.tier, .bool x.good, .int .i64 x.asked] 74)) (HO2.out.keep (below_allocs (Below.refl _ w4) (.cells #[.string x.dig, .string x.tier, .bool x.good, .int .i64 x.asked] 74))) hg8 (by have := HV4.out.size; simp; omega); obtain ⟨r0, r1, x0, x1, x2, x3⟩ := HCL.out _ hv; clear hc8 hg8 hn8)
    | (go_at_call 148; (with_reducible refine HINB.out.mono ?_); rintro e w8 ⟨g8, c8, rfl, hc8, hg8, hn8⟩; have HC8 := Lib.hid hc8; have l1 : n + 1 ≤ c8 := (by obtain ⟨_, _, _, h, _⟩ := HC8.out; exact h); have l2 : c8 ≤ 9223372036854775807 := (by obtain ⟨_, _, _, _, h, _⟩ := HC8.out; exact h); have HF := Lib.hid (below_ownI (below_up HBB.out HV4.out) HO4.out hg8 (by have := HZS.out; have := HV4.out.size; omega)); have hv := below_ownI HV4.out HO2.out hg8 HV4.out.size; obtain ⟨r0, r1, x0, x1, x2, x3⟩ := HCL.out _ hv; clear hc8 hg8 hn8)
    | (go_at_call 138; (with_reducible refine (clnC_clip _ _ _ _ l1 l2).mono ?_); rintro e wc ⟨rfl, rfl⟩)
    | fail)
  all_goals (go_wp2_with fail; go_ret; refine ⟨some ⟨g8, 0, none⟩, n + 1, by rw [HWL.out, HWN.out]; rfl, ?_, HF.out⟩; rw [HWL.out, HWN.out]; exact .inr ⟨g8, n + 1, rfl, HC8.out.clip⟩)
 ·obtain ⟨y, hy, _⟩ := HPT.out rfl
  have hpn : p < n := by rw [← HN.out]; exact (List.getElem?_eq_some_iff.1 hy).1
  have hW := HW.out
  rw [if_pos rfl] at hW
  have HWL : Hid (St.wth St.ckey x L = L.set p x) := Lib.hid hW
  have HWN : Hid ((L.set p x).length = n) := Lib.hid (by rw [List.length_set, HN.out])
  have HPU := Lib.hid (flat_putC L x p (by rw [HN.out]; exact hpn))
  clear hW hy
  go_upto_region 4 with (go_at_call 139; (with_reducible refine (HCN.out _ hv).mono ?_); rintro e w4 ⟨g4, c4, rfl, ho4, hq⟩; have hs4 := hv.size; have ho : OwnV w4 w.heap.size 74 4 (.slice g4 n c4) n (St.eC.flat L) := ho4.down (Nat.le_trans HZS.out hs4); have HV4 := Lib.hid (below_up HBB.out (below_up hv hq)); have hv := below_up hv hq; obtain ⟨r0, r1, x0, x1, x2, x3⟩ := HCL.out _ hv; clear ho4 hq)
  rcases ho with ⟨_, h0, _⟩ | ⟨g, cap, h0, hc⟩
  ·omega
  ·cases h0
   have hcg := hc.lt
   obtain ⟨cur0, _, hcc0, _⟩ := id hc
   have hfz0 := frozen_of hcc0 (p * 4)
   have hce0 : ∃ v, (w4).cell? ⟨g, p * 4, none⟩ = some v := by
    have h := hc.cellAt (p * 4) (by omega)
    exact ⟨_, h.trans (List.getElem?_eq_getElem (by first | (rw [St.eC.flat_len, HN.out]; show _ < n * 4; omega) | (simp only [List.length_set]; rw [St.eC.flat_len, HN.out]; show _ < n * 4; omega)))⟩
   obtain ⟨v0, hv0⟩ := hce0
   have hc0 := hc.setCell (p := p * 4) (by omega) (.string x.dig)
   obtain ⟨cur1, _, hcc1, _⟩ := id hc0
   have hfz1 := frozen_of hcc1 (p * 4 + 1)
   have hce1 : ∃ v, ((w4).setCell ⟨g, p * 4, none⟩ (.string x.dig)).cell? ⟨g, p * 4 + 1, none⟩ = some v := by
    have h := hc0.cellAt (p * 4 + 1) (by omega)
    exact ⟨_, h.trans (List.getElem?_eq_getElem (by first | (rw [St.eC.flat_len, HN.out]; show _ < n * 4; omega) | (simp only [List.length_set]; rw [St.eC.flat_len, HN.out]; show _ < n * 4; omega)))⟩
   obtain ⟨v1, hv1⟩ := hce1
   have hc1 := hc0.setCell (p := p * 4 + 1) (by omega) (.string x.tier)
   obtain ⟨cur2, _, hcc2, _⟩ := id hc1
   have hfz2 := frozen_of hcc2 (p * 4 + 2)
   have hce2 : ∃ v, (((w4).setCell ⟨g, p * 4, none⟩ (.string x.dig)).setCell ⟨g, p * 4 + 1, none⟩ (.string x.tier)).cell? ⟨g, p * 4 + 2, none⟩ = some v := by
    have h := hc1.cellAt (p * 4 + 2) (by omega)
    exact ⟨_, h.trans (List.getElem?_eq_getElem (by first | (rw [St.eC.flat_len, HN.out]; show _ < n * 4; omega) | (simp only [List.length_set]; rw [St.eC.flat_len, HN.out]; show _ < n * 4; omega)))⟩
   obtain ⟨v2, hv2⟩ := hce2
   have hc2 := hc1.setCell (p := p * 4 + 2) (by omega) (.bool x.good)
   obtain ⟨cur3, _, hcc3, _⟩ := id hc2
   have hfz3 := frozen_of hcc3 (p * 4 + 3)
   have hce3 : ∃ v, ((((w4).setCell ⟨g, p * 4, none⟩ (.string x.dig)).setCell ⟨g, p * 4 + 1, none⟩ (.string x.tier)).setCell ⟨g, p * 4 + 2, none⟩ (.bool x.good)).cell? ⟨g, p * 4 + 3, none⟩ = some v := by
    have h := hc2.cellAt (p * 4 + 3) (by omega)
    exact ⟨_, h.trans (List.getElem?_eq_getElem (by first | (rw [St.eC.flat_len, HN.out]; show _ < n * 4; omega) | (simp only [List.length_set]; rw [St.eC.flat_len, HN.out]; show _ < n * 4; omega)))⟩
   obtain ⟨v3, hv3⟩ := hce3
   have hc3 := hc2.setCell (p := p * 4 + 3) (by omega) (.int .i64 x.asked)
   rw [← HPU.out] at hc3
   have HCZ := Lib.hid hc3
   obtain ⟨_, _, _, l1, l2, _⟩ := id hc3
   have l2' : c4 ≤ 9223372036854775807 := l2
   have HBZ := Lib.hid ((((((((HV4.out).setCell (p := ⟨g, p * 4, none⟩) (by simpa using hcg.1) (.string x.dig))).setCell (p := ⟨g, p * 4 + 1, none⟩) (by simpa using hcg.1) (.string x.tier))).setCell (p := ⟨g, p * 4 + 2, none⟩) (by simpa using hcg.1) (.bool x.good))).setCell (p := ⟨g, p * 4 + 3, none⟩) (by simpa using hcg.1) (.int .i64 x.asked))
   clear hc hc0 hc1 hc2 hc3
   go_wp2_with (go_at_call 138; (with_reducible refine (clnC_clip _ _ _ _ l1 l2').mono ?_); rintro e wc ⟨rfl, rfl⟩)
   go_ret
   refine ⟨some ⟨g, 0, none⟩, n, by rw [HWL.out, HWN.out]; rfl, ?_, HBZ.out⟩
   rw [HWL.out, HWN.out]
   exact .inr ⟨g, n, rfl, HCZ.out.clip⟩
end Go.Proofs.YthdiccdnggloiaaGreatDoor
namespace Go.Proofs.YthdiccdnggloiaaGreatDoor
open Go.RowKit
namespace Hx
def hx (n : Nat) : UInt8 := if n < 10 then UInt8.ofNat (48 + n) else UInt8.ofNat (87 + n)
def digs (n : Nat) : List UInt8 := if h : n < 16 then [hx n] else digs (n / 16) ++ [hx (n % 16)]
def low : Nat → Nat → List UInt8
 | _, 0 => []
 | n, k + 1 => low (n / 16) k ++ [hx (n % 16)]
theorem digs_small {n : Nat} (h : n < 16) : digs n = [hx n] := by rw [digs, dif_pos h]
theorem digs_big {n : Nat} (h : 16 ≤ n) : digs n = digs (n / 16) ++ [hx (n % 16)] := by rw [digs, dif_neg (by omega)]
theorem low_zero : ∀ k, low 0 k = List.replicate k 48
 | 0 => rfl
 | k + 1 => by
   rw [low, Nat.zero_div, low_zero k]
   show List.replicate k 48 ++ [hx 0] = _
   rw [List.replicate_succ']; rfl
theorem digs_pos (n : Nat) : 1 ≤ (digs n).length := by
 rw [digs]; split <;> simp
theorem digs_low : ∀ k n, n < 16 ^ (k + 1) → (digs n).length ≤ k + 1 ∧ List.replicate (k + 1 - (digs n).length) 48 ++ digs n = low n (k + 1)
 | 0, n, h => by
   have h16 : n < 16 := by simpa using h
   rw [digs_small h16]
   refine ⟨by simp, ?_⟩
   rw [low, low]
   simp [Nat.mod_eq_of_lt h16]
 | k + 1, n, h => by
   by_cases h16 : n < 16
   ·rw [digs_small h16]
    refine ⟨by simp, ?_⟩
    rw [low, show n / 16 = 0 by omega, low_zero, Nat.mod_eq_of_lt h16]
    simp
   ·have hd : n / 16 < 16 ^ (k + 1) := by rw [Nat.pow_succ] at h; omega
    obtain ⟨h1, h2⟩ := digs_low k (n / 16) hd
    rw [digs_big (by omega)]
    refine ⟨by rw [List.length_append]; simp; omega, ?_⟩
    rw [low, ← h2, List.length_append, ← List.append_assoc]
    congr 2
    simp
end Hx
namespace Hx
def tab : List Int := Lib.deBruijn64tab.map fun n : Nat => (n : Int)
abbrev DB (w : World) : Prop := Lib.TabIs Tryz.prog w "math/bits.deBruijn64tab" .u8 tab
theorem db_global : Tryz.prog.globalNamed "math/bits.deBruijn64tab" = some 3 := by kernel_rfl
theorem db_below {w w' : World} (h : DB w) (hb : Below w.heap.size w w') : DB w' := Go.Joins.tab_stays db_global h hb (Nat.le_refl _)
theorem db_of_laid {W : World} {x : String × DataW Unit} {rest : List (String × DataW Unit)} (h : laidMet Tryz.prog (x :: ("math/bits.deBruijn64tab", Lib.tabData .u8 tab) :: rest) W) : DB W :=
 Lib.tabIs_of_head (t := 264) (e := 5) (n := 64) db_global (by kernel_rfl) (by kernel_rfl) (by kernel_rfl) (by kernel_rfl) (by kernel_rfl) h.tail
end Hx
theorem tz64_16 (w : World) (h : Hx.DB w) : Calls Tryz.prog 241 #[.int .u64 16] w fun e w' => e = .returned (.int .i64 4) ∧ w' = w := by
 have hc := h.cell Hx.db_global 15 (by decide)
 rw [show Hx.tab.getD 15 0 = 4 from by decide] at hc
 have key : IntKind.u64.wrap (bits BinOp.and IntKind.u64 (16 : Int) (IntKind.u64.wrap (-16)) * 285870213051353865) / 288230376151711744 = 15 := by decide +kernel
 go_enter Tryz.func241, Tryz.ntmps241
 go_wp2_with (simp only [key])
 go_ret
 exact ⟨rfl, rfl⟩
theorem tz_16 (w : World) (h : Hx.DB w) : Calls Tryz.prog 227 #[.int .u64 16] w fun e w' => e = .returned (.int .i64 4) ∧ w' = w := by
 have HT := Lib.hid (tz64_16 w h)
 clear h
 go_enter Tryz.func227, Tryz.ntmps227
 go_wp2_with (go_at_call 241; (with_reducible refine HT.out.mono ?_); rintro e w' ⟨rfl, rfl⟩)
 go_ret
 exact ⟨rfl, rfl⟩
theorem pow2_16 (w : World) : Calls Tryz.prog 226 #[.int .i64 16] w fun e w' => e = .returned (.bool true) ∧ w' = w := by
 have key : bits BinOp.and IntKind.i64 (16 : Int) 15 = 0 := by decide +kernel
 go_enter Tryz.func226, Tryz.ntmps226
 go_wp2_with (simp only [key])
 go_ret
 exact ⟨rfl, rfl⟩
theorem hx36 : ∀ d : Fin 16, ((ByteArray.mk #[48, 49, 50, 51, 52, 53, 54, 55, 56, 57, 97, 98, 99, 100, 101, 102, 103, 104, 105, 106, 107, 108, 109, 110, 111, 112, 113, 114, 115, 116, 117, 118, 119, 120, 121, 122]).data[d.val]'(by have := d.isLt; simp; omega)).toNat = (Hx.hx d.val).toNat := by decide
theorem hx36At (d : Nat) (h : d < 16) (hs : d < (ByteArray.mk #[48, 49, 50, 51, 52, 53, 54, 55, 56, 57, 97, 98, 99, 100, 101, 102, 103, 104, 105, 106, 107, 108, 109, 110, 111, 112, 113, 114, 115, 116, 117, 118, 119, 120, 121, 122]).size) : ((ByteArray.mk #[48, 49, 50, 51, 52, 53, 54, 55, 56, 57, 97, 98, 99, 100, 101, 102, 103, 104, 105, 106, 107, 108, 109, 110, 111, 112, 113, 114, 115, 116, 117, 118, 119, 120, 121, 122])[d]'hs).toNat = (Hx.hx d).toNat := hx36 ⟨d, h⟩
theorem and15U (m : Nat) (h : m < 18446744073709551616) : bits .and .u64 (m : Int) 15 = ((m % 16 : Nat) : Int) := by
 have := bits_and_u64_nat m 15 h (by decide)
 rw [show ((15 : Nat) : Int) = 15 from rfl] at this
 rw [this]
 congr 1
 exact Nat.and_two_pow_sub_one_eq_mod m 4
def Hx.cells (L : List UInt8) : List Value := L.map fun x => Value.int .u8 (x.toNat : Int)
theorem Hx.put {cur : Array Value} {k : Nat} {L : List UInt8} {x : UInt8} (hk : k + 1 + L.length = 65) (hs : cur.size = 65) (hd : cur.toList.drop (k + 1) = Hx.cells L) : (cur.setIfInBounds k (.int .u8 (x.toNat : Int))).toList.drop k = Hx.cells (x :: L) := by
 rw [Array.toList_setIfInBounds]
 have hkl : k < cur.toList.length := by rw [Array.length_toList]; omega
 rw [List.drop_eq_getElem_cons (by rw [List.length_set]; exact hkl), List.getElem_set_self, List.drop_set_of_lt (by omega), hd]
 rfl
theorem fmtBits_16 (n : Nat) (hn : n < 18446744073709551616) (w : World) (h : Hx.DB w) : Calls Tryz.prog 209 #[.slice none 0 0, .int .u64 n, .int .i64 16, .bool false, .bool false] w fun e w' => e = .returned (.tuple #[.slice none 0 0, .string ⟨(Hx.digs n).toArray⟩]) ∧ Below w.heap.size w w' := by
 have HP := Lib.hid (fun V => pow2_16 V)
 have HT := Lib.hid (fun V (hb : Below w.heap.size w V) => tz_16 V (Hx.db_below h hb))
 have hd16 := (Hx.digs_low 15 n (by simpa using hn)).1
 have HDL := Lib.hid hd16
 have HN := Lib.hid hn
 obtain ⟨W1, hW1, hX1, hz1, hB1⟩ := box w Tryz.zeroCells244 244
 have HW1 := Lib.hid hW1
 have HX1 := Lib.hid hX1; have HB1 := Lib.hid hB1
 clear h hn hd16 hW1 hX1 hz1 hB1
 go_enter Tryz.func209, Tryz.ntmps209
 go_upto_region 4 with fail
 rw [HW1.out]
 go_wp2_with (first
  | (go_at_call 226; (with_reducible refine (HP.out _).mono ?_); rintro e w3 ⟨rfl, rfl⟩)
  | (go_at_call 227; (with_reducible refine (HT.out _ HB1.out).mono ?_); rintro e w4 ⟨rfl, rfl⟩))
 go_loopg [1, 13] n (fun gk u i wr => ∃ (m k : Nat) (L : List UInt8) (cur : Array Value), gk = m ∧ u = .int .u64 m ∧ i = .int .i64 k ∧ m ≤ n ∧ Hx.digs n = Hx.digs m ++ L ∧ k + L.length = 65 ∧ Blk wr w.heap.size cur 244 ∧ cur.size = 65 ∧ cur.toList.drop k = Hx.cells L ∧ Below w.heap.size w wr)
 case atStart => exact ⟨n, 65, [], _, rfl, rfl, rfl, Nat.le_refl _, by simp, rfl, HX1.out, by kernel_rfl, by rfl, HB1.out⟩
 case round =>
  obtain ⟨m, k, L, cur, rfl, rfl, rfl, hmn, hdg, hk, hX, hsz, hdr, hB⟩ := hrel
  have HDG := Lib.hid hdg; have HX := Lib.hid hX; have HDR := Lib.hid hdr
  have hdl := HDL.out
  rw [hdg, List.length_append] at hdl
  have hdp := Hx.digs_pos gk
  have hn := HN.out
  have hm64 : gk < 18446744073709551616 := by omega
  have hL : L.length ≤ 15 := by omega
  clear hdg hdr hdl hdp hn
  by_cases hge : 16 ≤ gk
  ·have hgd : decide ((16 : Int) ≤ (gk : Int)) = true := decide_eq_true (by omega)
   have hgt : ((16 : Int) ≤ (gk : Int)) = True := eq_true (by omega)
   obtain ⟨d, hd⟩ : ∃ d, gk % 16 = d := ⟨_, rfl⟩
   obtain ⟨q, hq⟩ : ∃ q, gk / 16 = q := ⟨_, rfl⟩
   have hand := and15U gk hm64
   have hshr : (gk : Int) / 16 = (q : Int) := by omega
   rw [hd] at hand
   have HDQ := Lib.hid (And.intro hd hq)
   obtain ⟨k, rfl⟩ : ∃ k', k = k' + 1 := ⟨k - 1, by omega⟩
   have hkw : ((k + 1 : Nat) : Int) = (k : Int) + 1 := by omega
   have hki : IntKind.i64.wrap ((k : Int) + 1 - 1) = (k : Int) := by rw [IntKind.wrap_i64]; omega
   have hk0 : (0 : Int) ≤ (k : Int) := by omega
   have hk1 : (k : Int) < 65 := by omega
   have hce : wr.cell? ⟨w.heap.size, k, none⟩ = some (cur[k]'(by omega)) := by rw [hX.cell, Array.getElem?_eq_getElem]
   have hfz := frozen_of hX k
   have hidx := hx36At (d) (by omega)
   have hd0 : (0 : Int) ≤ ((d : Nat) : Int) := by omega
   have hd1 : ((d : Nat) : Int) < 36 := by omega
   rw [hkw]
   clear hd hq
   go_wp2_with fail
   go_roundg q
   case rel =>
    have hq := HDQ.out.2
    have hd := HDQ.out.1
    refine ⟨q, k, Hx.hx d :: L, _, rfl, rfl, rfl, by omega, ?_, by simp; omega, HX.out.set k _, by simpa using hsz, Hx.put hk hsz HDR.out, hB.setCell (p := ⟨w.heap.size, k, none⟩) (by simp) _⟩
    rw [HDG.out, Hx.digs_big hge, hd, hq, List.append_assoc]; rfl
   case measure => have := HDQ.out.2; omega
  ·have hgd : decide ((16 : Int) ≤ (gk : Int)) = false := decide_eq_false (by omega)
   have hgt : ((16 : Int) ≤ (gk : Int)) = False := eq_false (by omega)
   obtain ⟨k, rfl⟩ : ∃ k', k = k' + 1 := ⟨k - 1, by omega⟩
   have hkw : ((k + 1 : Nat) : Int) = (k : Int) + 1 := by omega
   have hki : IntKind.i64.wrap ((k : Int) + 1 - 1) = (k : Int) := by rw [IntKind.wrap_i64]; omega
   have hk0 : (0 : Int) ≤ (k : Int) := by omega
   have hk1 : (k : Int) < 65 := by omega
   have hce : wr.cell? ⟨w.heap.size, k, none⟩ = some (cur[k]'(by omega)) := by rw [hX.cell, Array.getElem?_eq_getElem]
   have hfz := frozen_of hX k
   have hidx := hx36At (gk) (by omega)
   have hd0 : (0 : Int) ≤ ((gk : Nat) : Int) := by omega
   have hd1 : ((gk : Nat) : Int) < 36 := by omega
   rw [hkw]
   have hk65 : (k : Int) ≤ 65 := by omega
   have hput := Hx.put (x := Hx.hx gk) hk hsz HDR.out
   have hXS := HX.out.set k (.int .u8 ((Hx.hx gk).toNat : Int))
   have HE : Hid (Hx.digs n = Hx.hx gk :: L) := Lib.hid (by rw [HDG.out, Hx.digs_small (by omega)]; rfl)
   have hconv : ∀ ty, (convert ty 9 (.slice (some ⟨w.heap.size, k, none⟩) (65 - k) (65 - k))).run Tryz.prog (wr.setCell ⟨w.heap.size, k, none⟩ (.int .u8 ((Hx.hx gk).toNat : Int))) = .ok (.string ⟨(Hx.digs n).toArray⟩) (wr.setCell ⟨w.heap.size, k, none⟩ (.int .u8 ((Hx.hx gk).toNat : Int))) ∨ ty ≠ 200 := fun ty => by
    by_cases hty : ty = 200
    ·left
     subst hty
     rw [HE.out, show 65 - k = (Hx.hx gk :: L).length by simp; omega]
     refine run_convert_bytes_back _ _ _ 5 ⟨w.heap.size, k, none⟩ _ (Hx.hx gk :: L) Tryz.underlying200 Tryz.underlying5 Tryz.underlying9 ?_
     intro j hj
     rw [show (⟨w.heap.size, k, none⟩ : Addr).add j = ⟨w.heap.size, k + j, none⟩ from by unfold Addr.add; split <;> simp_all, hXS.cell, ← Array.getElem?_toList]
     have h2 := congrArg (fun l => l[j]?) hput
     simp only [List.getElem?_drop] at h2
     rw [h2]
     unfold Hx.cells
     rw [List.getElem?_map, List.getElem?_eq_getElem hj]; rfl
    ·exact .inr hty
   have hcv := (hconv 200).resolve_right (fun h => h rfl)
   have HCV := Lib.hid hcv
   clear hconv hcv hput hXS
   go_upto_region 30 with fail
   have hcv := HCV.out
   go_wp2_with fail
   go_ret2
   exact ⟨rfl, hB.setCell (p := ⟨w.heap.size, k, none⟩) (by simp) _⟩
theorem fmtUintI_16 (n : Nat) (hn : n < 18446744073709551616) (w : World) (h : Hx.DB w) : Calls Tryz.prog 173 #[.int .u64 n, .int .i64 16] w fun e w' => e = .returned (.string ⟨(Hx.digs n).toArray⟩) ∧ Below w.heap.size w w' := by
 have HF := Lib.hid (fmtBits_16 n hn w h)
 clear h hn
 go_enter Tryz.func173, Tryz.ntmps173
 go_wp2_with (go_at_call 209; (with_reducible refine HF.out.mono ?_); rintro e w3 ⟨rfl, hB3⟩)
 go_ret
 exact ⟨rfl, hB3⟩
theorem fmtUint_16 (n : Nat) (hn : n < 18446744073709551616) (w : World) (h : Hx.DB w) : Calls Tryz.prog 106 #[.int .u64 n, .int .i64 16] w fun e w' => e = .returned (.string ⟨(Hx.digs n).toArray⟩) ∧ Below w.heap.size w w' := by
 have HF := Lib.hid (fmtUintI_16 n hn w h)
 clear h hn
 go_enter Tryz.func106, Tryz.ntmps106
 go_wp2_with (go_at_call 173; (with_reducible refine HF.out.mono ?_); rintro e w3 ⟨rfl, hB3⟩)
 go_ret
 exact ⟨rfl, hB3⟩
namespace Hx
def step (h : Nat) (b : UInt8) : Nat := ((h ^^^ b.toNat) * 1099511628211) % 18446744073709551616
def fnv0 : Nat := 14695981039346656037
def fnv (l : List UInt8) : Nat := l.foldl step fnv0
theorem fnv0_lt : fnv0 < 18446744073709551616 := by decide
theorem step_lt (h : Nat) (b : UInt8) : step h b < 18446744073709551616 := Nat.mod_lt _ (by decide)
theorem fnv_lt (l : List UInt8) : fnv l < 18446744073709551616 := by
 unfold fnv
 cases hl : l.reverse with
 | nil => have : l = [] := List.reverse_eq_nil_iff.1 hl; subst this; exact fnv0_lt
 | cons b r =>
   have : l = r.reverse ++ [b] := by rw [← List.reverse_reverse l, hl]; simp
   rw [this, List.foldl_append, List.foldl_cons, List.foldl_nil]
   exact step_lt _ _
theorem fnv_next {l : List UInt8} {j : Nat} {b : UInt8} (h : l[j]? = some b) : fnv (l.take (j + 1)) = step (fnv (l.take j)) b := by
 unfold fnv
 rw [List.take_add_one, h, List.foldl_append, Option.toList_some, List.foldl_cons, List.foldl_nil]
def dig (l : List UInt8) : ByteArray := ⟨(low (fnv l) 16).toArray⟩
end Hx
end Go.Proofs.YthdiccdnggloiaaGreatDoor
namespace Go.Proofs.YthdiccdnggloiaaGreatDoor
open Go.Shelf
def Lay.repeatS_ren : Go.Shelf.Ren := ⟨fun | 105 => 107 | 212 => 174 | 99 => 175 | 165 => 176 | 166 => 177 | 170 => 178 | 169 => 179 | 263 => 210 | 264 => 211 | 206 => 212 | 240 => 213 | 241 => 214 | 276 => 228 | 277 => 229 | n => n, fun | 9 => 9 | 3 => 3 | 4 => 4 | 20 => 20 | 0 => 0 | 46 => 195 | 109 => 196 | 5 => 5 | 72 => 202 | 76 => 206 | 51 => 230 | 146 => 231 | 53 => 149 | 148 => 233 | 70 => 199 | 37 => 200 | 75 => 205 | 127 => 235 | 164 => 246 | 80 => 209 | n => n, fun | n => n⟩
theorem Lay.repeatS : Go.Proofs.Lays.n105 Tryz.prog Lay.repeatS_ren := {
 mixed := by kernel_rfl
 f99 := Tryz.func175.trans (congrArg some (by kernel_rfl))
 f105 := Tryz.func107.trans (congrArg some (by kernel_rfl))
 f165 := Tryz.func176.trans (congrArg some (by kernel_rfl))
 f166 := Tryz.func177.trans (congrArg some (by kernel_rfl))
 f169 := Tryz.func179.trans (congrArg some (by kernel_rfl))
 f170 := Tryz.func178.trans (congrArg some (by kernel_rfl))
 f206 := Tryz.func212.trans (congrArg some (by kernel_rfl))
 f212 := Tryz.func174.trans (congrArg some (by kernel_rfl))
 f240 := Tryz.func213.trans (congrArg some (by kernel_rfl))
 f241 := Tryz.func214.trans (congrArg some (by kernel_rfl))
 f263 := Tryz.func210.trans (congrArg some (by kernel_rfl))
 f264 := Tryz.func211.trans (congrArg some (by kernel_rfl))
 f276 := Tryz.func228.trans (congrArg some (by kernel_rfl))
 f277 := Tryz.func229.trans (congrArg some (by kernel_rfl))
 t0 := Tryz.underlying0
 a0 := Tryz.isAgg0
 z0 := Tryz.sizeOf0
 v0 := Tryz.zeroValue0
 t3 := Tryz.underlying3
 a3 := Tryz.isAgg3
 z3 := Tryz.sizeOf3
 v3 := Tryz.zeroValue3
 t4 := Tryz.underlying4
 a4 := Tryz.isAgg4
 z4 := Tryz.sizeOf4
 v4 := Tryz.zeroValue4
 t5 := Tryz.underlying5
 a5 := Tryz.isAgg5
 z5 := Tryz.sizeOf5
 v5 := Tryz.zeroValue5
 t9 := Tryz.underlying9
 a9 := Tryz.isAgg9
 z9 := Tryz.sizeOf9
 v9 := Tryz.zeroValue9
 t20 := Tryz.underlying20
 a20 := Tryz.isAgg20
 z20 := Tryz.sizeOf20
 v20 := Tryz.zeroValue20
 t37 := Tryz.underlying200
 a37 := Tryz.isAgg200
 z37 := Tryz.sizeOf200
 v37 := Tryz.zeroValue200
 t46 := Tryz.underlying195
 a46 := Tryz.isAgg195
 z46 := Tryz.sizeOf195
 v46 := Tryz.zeroValue195
 t51 := Tryz.underlying230
 a51 := Tryz.isAgg230
 z51 := Tryz.sizeOf230
 v51 := Tryz.zeroValue230
 t53 := Tryz.underlying149
 a53 := Tryz.isAgg149
 z53 := Tryz.sizeOf149
 v53 := Tryz.zeroValue149
 t70 := Tryz.underlying199
 a70 := Tryz.isAgg199
 z70 := Tryz.sizeOf199
 v70 := Tryz.zeroValue199
 t72 := Tryz.underlying202
 a72 := Tryz.isAgg202
 z72 := Tryz.sizeOf202
 v72 := Tryz.zeroValue202
 t75 := Tryz.underlying205
 a75 := Tryz.isAgg205
 z75 := Tryz.sizeOf205
 v75 := Tryz.zeroValue205
 t76 := Tryz.underlying206
 a76 := Tryz.isAgg206
 z76 := Tryz.sizeOf206
 v76 := Tryz.zeroValue206
 t109 := Tryz.underlying196
 a109 := Tryz.isAgg196
 z109 := Tryz.sizeOf196
 v109 := Tryz.zeroValue196
 t127 := Tryz.underlying235
 a127 := Tryz.isAgg235
 z127 := Tryz.sizeOf235
 v127 := Tryz.zeroValue235
 t146 := Tryz.underlying231
 a146 := Tryz.isAgg231
 z146 := Tryz.sizeOf231
 v146 := Tryz.zeroValue231
 t148 := Tryz.underlying233
 a148 := Tryz.isAgg233
 z148 := Tryz.sizeOf233
 v148 := Tryz.zeroValue233
 t164 := Tryz.underlying246
 a164 := Tryz.isAgg246
 z164 := Tryz.sizeOf246
 v164 := Tryz.zeroValue246 }
end Go.Proofs.YthdiccdnggloiaaGreatDoor
namespace Go.Proofs.YthdiccdnggloiaaGreatDoor
open Go.RowKit Go.Sort Go.Shelf
theorem Lay.extRep : Builder.Extra Tryz.prog Lay.repeatS_ren := {
 sizeBuilder := by kernel_rfl
 liesBuilder := by kernel_rfl
 t5 := Tryz.underlying5
 a5 := Tryz.isAgg5
 z5 := Tryz.sizeOf5
 v5 := Tryz.zeroValue5
 infoByte := by kernel_rfl
 cellsByte := by kernel_rfl
 sizeByte := by kernel_rfl
 neB5 := by decide }
theorem repL48 : ∀ c, Lib.repeatL [48] c = List.replicate c 48
 | 0 => rfl
 | c + 1 => by
   show [48] ++ Lib.repeatL [48] c = _
   rw [repL48 c]; rfl
theorem rep48 (c : Nat) (hc : c ≤ 16) (w : World) : Calls Tryz.prog 107 #[.string ⟨#[48]⟩, .int .i64 c] w fun e w' => e = .returned (.string ⟨(List.replicate c 48).toArray⟩) ∧ Below w.heap.size w w' := by
 have h := Any.strings_Repeat Lay.repeatS Lay.extRep ⟨#[48]⟩ c w (by omega) (by show 1 * c ≤ _; omega)
 have e : Lib.repeatL (ByteArray.mk #[48]).data.toList c = List.replicate c 48 := repL48 c
 rw [e] at h
 exact h
theorem digest_is (s : ByteArray) (hs : s.size ≤ 9223372036854775807) (w : World) (hd : Hx.DB w) : Calls Tryz.prog 30 #[.string s] w fun e w' => e = .returned (.string (Hx.dig s.data.toList)) ∧ Below w.heap.size w w' := by
 obtain ⟨n, hn⟩ : ∃ n, s.size = n := ⟨_, rfl⟩
 have HN := Lib.hid hn
 have HD := Lib.hid hd
 rw [hn] at hs
 clear hd
 go_enter Tryz.func30, Tryz.ntmps30
 go_wp2_with fail
 go_loopg [3, 8] n (fun gk u i wr => ∃ (j h : Nat), j ≤ n ∧ gk = n - j ∧ i = .int .i64 j ∧ u = .int .u64 h ∧ h = Hx.fnv (s.data.toList.take j) ∧ w = wr)
 case atStart => exact ⟨0, _, by omega, rfl, rfl, rfl, rfl, rfl⟩
 case round =>
  obtain ⟨j, h, hj, rfl, rfl, rfl, hh, rfl⟩ := hrel
  have h64 : h < 18446744073709551616 := by rw [hh]; exact Hx.fnv_lt _
  have HH := Lib.hid hh
  clear hh
  by_cases hlt : j < n
  ·obtain ⟨b, hb⟩ : ∃ b, s[j]'(by rw [HN.out]; exact hlt) = b := ⟨_, rfl⟩
   have hj0 : (0 : Int) ≤ (j : Int) := by omega
   have hj1 : (j : Int) < (n : Int) := by omega
   have hbw : IntKind.u64.wrap (b.toNat : Int) = (b.toNat : Int) := by have := b.toNat_lt; rw [IntKind.wrap_u64]; omega
   have hxr := bits_xor_u64_nat h b.toNat (by omega) (by have := b.toNat_lt; omega)
   have hmu : IntKind.u64.wrap (((h ^^^ b.toNat : Nat) : Int) * 1099511628211) = ((Hx.step h b : Nat) : Int) := by
    rw [IntKind.wrap_u64]
    unfold Hx.step
    omega
   have hjs : j < s.size := by rw [HN.out]; exact hlt
   have HB : Hid (s.data.toList[j]? = some b) := Lib.hid (by
    rw [← hb]
    show _ = some (s.data[j]'_)
    rw [Array.getElem?_toList, Array.getElem?_eq_getElem])
   go_wp2_with fail
   go_roundg (n - (j + 1))
   case rel => exact ⟨j + 1, Hx.step h b, by omega, rfl, by go_num, rfl, by rw [Hx.fnv_next HB.out, HH.out], rfl⟩
   case measure => omega
  ·obtain rfl : j = n := by omega
   have HFN : Hid (h = Hx.fnv s.data.toList) := Lib.hid (by
    rw [HH.out, List.take_of_length_le (by rw [Array.length_toList]; exact Nat.le_of_eq HN.out)])
   have HFM := Lib.hid (fmtUint_16 h h64 w HD.out)
   obtain ⟨hl16, hlow⟩ := Hx.digs_low 15 h (by simpa using h64)
   have HE : Hid ((⟨(List.replicate (16 - (Hx.digs h).length) 48).toArray⟩ : ByteArray) ++ ⟨(Hx.digs h).toArray⟩ = Hx.dig s.data.toList) := Lib.hid (by
    unfold Hx.dig
    rw [← HFN.out, ← hlow]
    apply ByteArray.ext
    rw [ByteArray.data_append]
    simp)
   obtain ⟨D, hD⟩ : ∃ D : ByteArray, (⟨(Hx.digs h).toArray⟩ : ByteArray) = D := ⟨_, rfl⟩
   have hDs : D.size = (Hx.digs h).length := by rw [← hD]; show (Hx.digs h).toArray.size = _; simp
   rw [hD] at HFM HE
   obtain ⟨l, hl⟩ : ∃ l, (Hx.digs h).length = l := ⟨_, rfl⟩
   rw [hl] at hDs HE hl16
   obtain ⟨c, hc⟩ : ∃ c, 16 - l = c := ⟨_, rfl⟩
   have hci : IntKind.i64.wrap (16 - (l : Int)) = (c : Int) := by rw [IntKind.wrap_i64]; omega
   rw [hc] at HE
   have HRP := Lib.hid (fun V => rep48 c (by omega) V)
   have hadd : ∀ V, (Op.stringOp .add (⟨(List.replicate c 48).toArray⟩ : ByteArray) D).run Tryz.prog V = .ok (.string ((⟨(List.replicate c 48).toArray⟩ : ByteArray) ++ D)) V := fun V => run_string_add_sum V _ _ (by
    have h1 : (⟨(List.replicate c 48).toArray⟩ : ByteArray).size = c := by show (List.replicate c 48).toArray.size = c; simp
    rw [h1]; omega)
   generalize (⟨(List.replicate c 48).toArray⟩ : ByteArray) = R at *
   clear hD hl hlow
   go_wp2_with (first
    | (go_at_call 106; (with_reducible refine HFM.out.mono ?_); rintro e w3 ⟨rfl, hB3⟩)
    | (go_at_call 107; (with_reducible refine (HRP.out _).mono ?_); rintro e w4 ⟨rfl, hB4⟩))
   go_ret
   exact ⟨by rw [HE.out]; rfl, below_up hB3 hB4⟩
end Go.Proofs.YthdiccdnggloiaaGreatDoor
