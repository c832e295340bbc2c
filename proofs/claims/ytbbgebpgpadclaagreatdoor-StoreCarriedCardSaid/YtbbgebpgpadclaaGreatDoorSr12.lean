/- Parts of the proof, no condition: StRrA, StRrB, StRrC. -/
import Derived.Test.YtbbgebpgpadclaaGreatDoorSr11
import Derived.Test.YtbbgebpgpadclaaGreatDoorSr6
import Derived.Test.YtbbgebpgpadclaaGreatDoorSr9
import Derived.Maps.RangeWalk
set_option maxRecDepth 100000
set_option maxHeartbeats 16000000
set_option linter.unusedSimpArgs false
set_option linter.unusedVariables false
namespace Go.Proofs.YtbbgebpgpadclaaGreatDoor
open Go.RowKit Go.Sort Go.Shelf Go.Maps
theorem strByte0 (l : List UInt8) (c : UInt8) (h : l[0]? = some c) : (Tx.mk l)[0]'(by rw [Tx.mk_size]; exact (List.getElem?_eq_some_iff.1 h).1) = c := by
 obtain ⟨hj, e⟩ := List.getElem?_eq_some_iff.1 h
 show l.toArray[0]'(by simpa using hj) = c
 simpa using e
def FewPost (w : World) (r : Option Nat) (e : Ending) (w' : World) : Prop :=
 (∃ n : Nat, r = some n ∧ e = .returned (.tuple #[.int .i64 (n : Int), .bool true]) ∧ Below w.heap.size w w') ∨ (∃ q : Int, r = none ∧ e = .returned (.tuple #[.int .i64 q, .bool false]) ∧ Below w.heap.size w w')
theorem few13_is (l : List UInt8) (hl : l.length ≤ 1000000000000) (w : World) : Calls Tryz.prog 56 #[.string (Tx.mk l), .int .i64 13] w (FewPost w (St.num13 l)) := by
 have hsz := Tx.mk_size l
 by_cases h0 : l.length < 1
 ·have HN : Hid (St.num13 l = none) := by show _ = _; unfold St.num13; rw [if_neg (fun h => by omega)]
  go_enter Tryz.func56, Tryz.ntmps56
  go_wp2_with fail
  go_ret2
  exact .inr ⟨0, HN.out, rfl, Below.refl _ _⟩
 ·by_cases h4 : 13 < l.length
  ·have HN : Hid (St.num13 l = none) := by show _ = _; unfold St.num13; rw [if_neg (fun h => by omega)]
   go_enter Tryz.func56, Tryz.ntmps56
   go_wp2_with fail
   go_ret2
   exact .inr ⟨0, HN.out, rfl, Below.refl _ _⟩
  ·have HF := Lib.hid (fun W => fixed_is l l.length (by omega) (by omega) W)
   obtain ⟨c, hc⟩ : ∃ c, l[0]? = some c := ⟨_, List.getElem?_eq_getElem (by omega)⟩
   have hb := strByte0 l c hc
   by_cases h48 : 1 < l.length ∧ c = 48
   ·obtain ⟨h11, rfl⟩ := h48
    have HN : Hid (St.num13 l = none) := by show _ = _; unfold St.num13; rw [if_neg (fun h => h.2.2 ⟨h11, hc⟩)]
    go_enter Tryz.func56, Tryz.ntmps56
    go_wp2_with fail
    go_ret2
    exact .inr ⟨0, HN.out, rfl, Below.refl _ _⟩
   ·obtain ⟨q, hq⟩ : ∃ q : Int, (if l.length = l.length ∧ Dg.allD l = true then (Dg.val l : Int) else -1) = q := ⟨_, rfl⟩
    rw [hq] at HF
    have hN : (q = -1 ∧ St.num13 l = none) ∨ ∃ v : Nat, q = v ∧ St.num13 l = some v := by
     by_cases h1 : Dg.allD l = true
     ·rw [if_pos ⟨rfl, h1⟩] at hq
      exact .inr ⟨_, hq.symm, by unfold St.num13; rw [if_pos ⟨⟨by omega, by omega⟩, h1, fun h => h48 ⟨h.1, by rw [hc] at h; exact Option.some.inj h.2⟩⟩]⟩
     ·rw [if_neg (fun h => h1 h.2)] at hq
      exact .inl ⟨hq.symm, by unfold St.num13; rw [if_neg (fun h => h1 h.2.1)]⟩
    have hc2 : ¬ 1 < l.length ∨ ((c.toNat : Int) == 48) = false := by
     by_cases h11 : 1 < l.length
     ·right; rw [beq_eq_false_iff_ne]; intro e; exact h48 ⟨h11, UInt8.toNat_inj.1 (by show c.toNat = 48; omega)⟩
     ·exact .inl h11
    clear hq h48
    rcases hN with ⟨rfl, hn⟩ | ⟨v, rfl, hn⟩
    all_goals
     have HN := Lib.hid hn
     clear hn
     rcases hc2 with hc2 | hc2
     all_goals
      by_cases h11 : 1 < l.length
      all_goals
       first
        | exact absurd h11 hc2
        | (go_enter Tryz.func56, Tryz.ntmps56; go_wp2_with (go_at_call 90; refine (HF.out _).mono ?_; rintro e w2 ⟨rfl, rfl⟩); go_ret2; first | exact .inl ⟨_, HN.out, rfl, Below.refl _ _⟩ | exact .inr ⟨-1, HN.out, rfl, Below.refl _ _⟩)
theorem St.ent_empty {L : List (List UInt8)} (h : [] ∈ L) : St.ent L = none := by
 have hn : St.num13 [] = none := by decide
 have h1 : St.two [] St.wAway St.wHere = none := by decide
 have h2 : St.two [] St.wGood St.wBad = none := by decide
 have h3 : St.secW [] = 6 := by decide
 have h4 : St.kindW [] = 0 := by decide
 cases L with
 | nil => rfl
 | cons k R =>
   rcases List.mem_cons.1 h with rfl | h
   ·show St.entK (St.secW []) R = none
    rw [h3]; rfl
   ·show St.entK (St.secW k) R = none
    unfold St.entK
    split
    ·unfold St.entS
     match R, h with
     | [], _ => rfl
     | [a], _ => rfl
     | [a, b], h =>
       simp only [List.mem_cons, List.not_mem_nil, or_false] at h
       rcases h with h | h <;> subst h
       ·simp [hn]
       ·cases h9 : St.num13 a <;> simp [hn, h9]
     | _ :: _ :: _ :: _, _ => rfl
    ·unfold St.entT
     match R, h with
     | [], _ => rfl
     | [a], _ => rfl
     | [a, b], _ => rfl
     | [a, b, c], _ => rfl
     | [a, b, c, d], h =>
       simp only [List.mem_cons, List.not_mem_nil, or_false] at h
       by_cases ha : a = []
       ·simp [ha]
       ·simp only [if_neg ha]
        rcases h with h | h | h | h
        ·exact absurd h.symm ha
        ·subst h; simp [hn]
        ·subst h; cases h9 : St.num13 b <;> simp [hn, h9]
        ·subst h; cases h9 : St.num13 b <;> cases h8 : St.num13 c <;> simp [h1, h9, h8]
     | _ :: _ :: _ :: _ :: _ :: _, _ => rfl
    ·unfold St.entF
     match R, h with
     | [], _ => rfl
     | [a], _ => rfl
     | [a, b], _ => rfl
     | [a, b, c], h =>
       simp only [List.mem_cons, List.not_mem_nil, or_false] at h
       by_cases ha : a = []
       ·simp [ha]
       ·simp only [if_neg ha]
        rcases h with h | h | h
        ·exact absurd h.symm ha
        ·subst h; simp [hn]
        ·subst h; cases h9 : St.num13 b <;> simp [h4, h9]
     | [a, b, c, d], h =>
       simp only [List.mem_cons, List.not_mem_nil, or_false] at h
       by_cases ha : a = [] ∨ d = []
       ·simp only [if_pos ha]
       ·simp only [if_neg ha]
        rcases h with h | h | h | h
        ·exact absurd (.inl h.symm) ha
        ·subst h; simp [hn]
        ·subst h; cases h9 : St.num13 b <;> simp [h4, h9]
        ·exact absurd (.inr h.symm) ha
     | _ :: _ :: _ :: _ :: _ :: _, _ => rfl
    ·unfold St.entC
     match R, h with
     | [], _ => rfl
     | [a], _ => rfl
     | [a, b], _ => rfl
     | [a, b, c], _ => rfl
     | [a, b, c, d], h =>
       simp only [List.mem_cons, List.not_mem_nil, or_false] at h
       by_cases ha : a = [] ∨ b = []
       ·simp only [if_pos ha]
       ·simp only [if_neg ha]
        rcases h with h | h | h | h
        ·exact absurd (.inl h.symm) ha
        ·exact absurd (.inr h.symm) ha
        ·subst h; simp [h2]
        ·subst h; cases h9 : St.two c St.wGood St.wBad <;> simp [hn, h9]
     | _ :: _ :: _ :: _ :: _ :: _, _ => rfl
    ·unfold St.entH
     match R, h with
     | [], _ => rfl
     | [a], h =>
       simp only [List.mem_cons, List.not_mem_nil, or_false] at h
       simp [← h]
     | _ :: _ :: _, _ => rfl
    ·unfold St.entB
     match R, h with
     | [], _ => rfl
     | [a], _ => rfl
     | [a, b], h =>
       simp only [List.mem_cons, List.not_mem_nil, or_false] at h
       by_cases ha : a = []
       ·simp [ha]
       ·simp only [if_neg ha]
        rcases h with h | h
        ·exact absurd h.symm ha
        ·subst h; simp [hn]
     | _ :: _ :: _ :: _, _ => rfl
    ·rfl
theorem St.ixW_mem (x : List UInt8) : ∀ (L : List (List UInt8)) (j : Nat), (x ∈ L → 0 ≤ St.ixW x L j) ∧ (x ∉ L → St.ixW x L j = -1)
 | [], j => ⟨fun h => absurd h List.not_mem_nil, fun _ => rfl⟩
 | y :: L, j => by
   rw [St.ixW]
   by_cases h : x = y
   ·rw [if_pos h]; exact ⟨fun _ => by omega, fun e => absurd (by rw [h]; exact List.mem_cons_self) e⟩
   ·rw [if_neg h]
    obtain ⟨h1, h2⟩ := St.ixW_mem x L (j + 1)
    refine ⟨fun e => h1 ((List.mem_cons.1 e).resolve_left h), fun e => h2 fun e2 => e (List.mem_cons_of_mem _ e2)⟩
theorem containsW_is (x : List UInt8) (L : List (List UInt8)) (sa : Option Addr) (sc : Nat) (w : World) (hr : RowE St.eS w sa (L.map Tx.mk)) (hl : L.length ≤ 1000000) :
  Calls Tryz.prog 55 #[.slice sa L.length sc, .string (Tx.mk x)] w fun e w' => e = .returned (.bool (decide (x ∈ L))) ∧ w = w' := by
 have HI := Lib.hid (indexStr_is x L sa sc w hr hl)
 obtain ⟨q, hq⟩ : ∃ q, St.ixW x L 0 = q := ⟨_, rfl⟩
 have hm := St.ixW_mem x L 0
 rw [hq] at hm HI
 have HD : Hid (decide ((0 : Int) ≤ q) = decide (x ∈ L)) := Lib.hid (by
  by_cases h : x ∈ L
  ·simp [h, hm.1 h]
  ·simp [h, hm.2 h])
 clear hr hl hq hm
 go_enter Tryz.func55, Tryz.ntmps55
 go_wp2_with (go_at_call 13; (with_reducible refine HI.out.mono ?_); rintro e w1 ⟨rfl, rfl⟩)
 go_ret
 refine ⟨?_, rfl⟩
 rw [← HD.out]; exact ret_bool (by simp)
theorem infoRI : (Tryz.prog.info? 3).map (fun i => (i.zero, i.size, i.bytes)) = some (some (.int .i64 0), 1, 8) := by kernel_rfl
theorem infoRB : (Tryz.prog.info? 4).map (fun i => (i.zero, i.size, i.bytes)) = some (some (.bool false), 1, 1) := by kernel_rfl

theorem list_appI {ops : Array Oper} {rest : List Oper} {o : Oper} {a : Act} {V : World} {cs : Array Value} {Q : Exit → Act → World → Prop} (hgd : o.guard = none) (s x : Operand)
  (ho : o.op = .call { callee := .builtin .append, args := #[s, x], argTypes := #[89, 89] }) (base : Nat) (v : Value) (n : Nat) (xs : List Value) (hs : a.eval s = v) (hx : a.eval x = .slice (some ⟨V.heap.size, 0, none⟩) 1 1)
  (hown : V.ownsRow base 3 1 v n xs) (hn : n ≤ 1000000) (hb : base ≤ V.heap.size) (hcs : cs.toList.length = 1 * 1) (h1 : ∀ u ∈ cs.toList, u.oneCell' = true)
  (h : ∀ g cap w', w'.ownsRow base 3 1 (.slice (some ⟨g, 0, none⟩) (n + 1) cap) (n + 1) (xs ++ cs.toList) → (V.alloc (.cells cs 3)).grownBy w' v.ownBlock → wpList Tryz.prog ops Q rest (a.put o.dst (.slice (some ⟨g, 0, none⟩) (n + 1) cap)) w') :
  wpList Tryz.prog ops Q (o :: rest) a (V.alloc (.cells cs 3)) := by
 obtain ⟨i0, hi0, hi1, hi2, hi3⟩ := info_parts infoRI
 exact wpList_append_own2 _ hgd s x _ ho base 3 i0 (.int .i64 0) 1 8 Tryz.underlying89 hi0 hi1 hi2 hi3 rfl (by decide) v n xs hs (hown.alloc _) ⟨V.heap.size, 0, none⟩ 1 1 cs.toList hx (by decide) hcs
  (World.news_of_block (cs := cs) (t := 3) (fr := (0, 0)) (Blk.new V cs 3)) h1 (by unfold maxLen; omega) (by omega) (by simp; omega) (fun g cap w' h1 h2 _ => h g cap w' h1 h2)

theorem list_appB {ops : Array Oper} {rest : List Oper} {o : Oper} {a : Act} {V : World} {cs : Array Value} {Q : Exit → Act → World → Prop} (hgd : o.guard = none) (s x : Operand)
  (ho : o.op = .call { callee := .builtin .append, args := #[s, x], argTypes := #[90, 90] }) (base : Nat) (v : Value) (n : Nat) (xs : List Value) (hs : a.eval s = v) (hx : a.eval x = .slice (some ⟨V.heap.size, 0, none⟩) 1 1)
  (hown : V.ownsRow base 4 1 v n xs) (hn : n ≤ 1000000) (hb : base ≤ V.heap.size) (hcs : cs.toList.length = 1 * 1) (h1 : ∀ u ∈ cs.toList, u.oneCell' = true)
  (h : ∀ g cap w', w'.ownsRow base 4 1 (.slice (some ⟨g, 0, none⟩) (n + 1) cap) (n + 1) (xs ++ cs.toList) → (V.alloc (.cells cs 4)).grownBy w' v.ownBlock → wpList Tryz.prog ops Q rest (a.put o.dst (.slice (some ⟨g, 0, none⟩) (n + 1) cap)) w') :
  wpList Tryz.prog ops Q (o :: rest) a (V.alloc (.cells cs 4)) := by
 obtain ⟨i0, hi0, hi1, hi2, hi3⟩ := info_parts infoRB
 exact wpList_append_own2 _ hgd s x _ ho base 4 i0 (.bool false) 1 1 Tryz.underlying90 hi0 hi1 hi2 hi3 rfl (by decide) v n xs hs (hown.alloc _) ⟨V.heap.size, 0, none⟩ 1 1 cs.toList hx (by decide) hcs
  (World.news_of_block (cs := cs) (t := 4) (fr := (0, 0)) (Blk.new V cs 4)) h1 (by unfold maxLen; omega) (by omega) (by simp; omega) (fun g cap w' h1 h2 _ => h g cap w' h1 h2)
def LnFr (w w' : World) (sb : Nat) (s s' : Sto) (b b' : StA) : Prop := ∀ q, q < w.heap.size → NoB sb s b q → w'.heap[q]? = w.heap[q]? ∧ NoB sb s' b' q
def LinePost (w : World) (sb : Nat) (s : Sto) (b : StA) (L : List (List UInt8)) (e : Ending) (w' : World) : Prop :=
 Below sb w w' ∧ ((∃ E b', St.ent L = some E ∧ e = .returned (.int .i64 ((E.sec : Nat) : Int)) ∧ StIO w' sb (E.put s) b' ∧ LnFr w w' sb s (E.put s) b b') ∨ (St.ent L = none ∧ e = .returned (.int .i64 0)))

theorem fr_T {w V w8 : World} {sb g cap i : Nat} {s : Sto} {b : StA} {u : Value} (hB : Below w.heap.size w V) (hg : V.grownBy w8 (Value.slice b.ta s.tiers.length b.tc).ownBlock) (hn : (Value.slice b.ta s.tiers.length b.tc).ownBlock = some g ∨ g = V.heap.size) (L) : LnFr w (w8.setCell ⟨sb, i, none⟩ u) sb s { s with tiers := L } b { b with ta := some ⟨g, 0, none⟩, tc := cap } := by
 intro q hq n
 have hne : (Value.slice b.ta s.tiers.length b.tc).ownBlock ≠ some q := n.2.1
 have h1 : (w8.setCell ⟨sb, i, none⟩ u).heap[q]? = w.heap[q]? := by
  rw [Below.heap_setCell w8 ⟨sb, i, none⟩ u q n.1, hg.block q (by have := hB.size; omega) (fun e => hne e.symm), hB.block q hq]
 have h2 : (Value.slice (some ⟨g, 0, none⟩) L.length cap).ownBlock ≠ some q := by
  intro e
  have e2 : g = q := Option.some.inj e
  rcases hn with h | h
  ·exact hne (by rw [h, e2])
  ·have := hB.size; omega
 exact ⟨h1, n.1, h2, n.2.2⟩

theorem fr_F {w V w8 : World} {sb g cap i : Nat} {s : Sto} {b : StA} {u : Value} (hB : Below w.heap.size w V) (hg : V.grownBy w8 (Value.slice b.fa s.files.length b.fc).ownBlock) (hn : (Value.slice b.fa s.files.length b.fc).ownBlock = some g ∨ g = V.heap.size) (L) : LnFr w (w8.setCell ⟨sb, i, none⟩ u) sb s { s with files := L } b { b with fa := some ⟨g, 0, none⟩, fc := cap } := by
 intro q hq n
 have hne : (Value.slice b.fa s.files.length b.fc).ownBlock ≠ some q := n.2.2.1
 have h1 : (w8.setCell ⟨sb, i, none⟩ u).heap[q]? = w.heap[q]? := by
  rw [Below.heap_setCell w8 ⟨sb, i, none⟩ u q n.1, hg.block q (by have := hB.size; omega) (fun e => hne e.symm), hB.block q hq]
 have h2 : (Value.slice (some ⟨g, 0, none⟩) L.length cap).ownBlock ≠ some q := by
  intro e
  have e2 : g = q := Option.some.inj e
  rcases hn with h | h
  ·exact hne (by rw [h, e2])
  ·have := hB.size; omega
 exact ⟨h1, n.1, n.2.1, h2, n.2.2.2⟩

theorem fr_C {w V w8 : World} {sb g cap i : Nat} {s : Sto} {b : StA} {u : Value} (hB : Below w.heap.size w V) (hg : V.grownBy w8 (Value.slice b.ca s.copies.length b.cc).ownBlock) (hn : (Value.slice b.ca s.copies.length b.cc).ownBlock = some g ∨ g = V.heap.size) (L) : LnFr w (w8.setCell ⟨sb, i, none⟩ u) sb s { s with copies := L } b { b with ca := some ⟨g, 0, none⟩, cc := cap } := by
 intro q hq n
 have hne : (Value.slice b.ca s.copies.length b.cc).ownBlock ≠ some q := n.2.2.2.1
 have h1 : (w8.setCell ⟨sb, i, none⟩ u).heap[q]? = w.heap[q]? := by
  rw [Below.heap_setCell w8 ⟨sb, i, none⟩ u q n.1, hg.block q (by have := hB.size; omega) (fun e => hne e.symm), hB.block q hq]
 have h2 : (Value.slice (some ⟨g, 0, none⟩) L.length cap).ownBlock ≠ some q := by
  intro e
  have e2 : g = q := Option.some.inj e
  rcases hn with h | h
  ·exact hne (by rw [h, e2])
  ·have := hB.size; omega
 exact ⟨h1, n.1, n.2.1, n.2.2.1, h2, n.2.2.2.2⟩

theorem fr_H {w V w8 : World} {sb g cap i : Nat} {s : Sto} {b : StA} {u : Value} (hB : Below w.heap.size w V) (hg : V.grownBy w8 (Value.slice b.ha s.held.length b.hc).ownBlock) (hn : (Value.slice b.ha s.held.length b.hc).ownBlock = some g ∨ g = V.heap.size) (L) : LnFr w (w8.setCell ⟨sb, i, none⟩ u) sb s { s with held := L } b { b with ha := some ⟨g, 0, none⟩, hc := cap } := by
 intro q hq n
 have hne : (Value.slice b.ha s.held.length b.hc).ownBlock ≠ some q := n.2.2.2.2.1
 have h1 : (w8.setCell ⟨sb, i, none⟩ u).heap[q]? = w.heap[q]? := by
  rw [Below.heap_setCell w8 ⟨sb, i, none⟩ u q n.1, hg.block q (by have := hB.size; omega) (fun e => hne e.symm), hB.block q hq]
 have h2 : (Value.slice (some ⟨g, 0, none⟩) L.length cap).ownBlock ≠ some q := by
  intro e
  have e2 : g = q := Option.some.inj e
  rcases hn with h | h
  ·exact hne (by rw [h, e2])
  ·have := hB.size; omega
 exact ⟨h1, n.1, n.2.1, n.2.2.1, n.2.2.2.1, h2, n.2.2.2.2.2⟩

theorem fr_B {w V w8 : World} {sb g cap i : Nat} {s : Sto} {b : StA} {u : Value} (hB : Below w.heap.size w V) (hg : V.grownBy w8 (Value.slice b.ba s.bin.length b.bc).ownBlock) (hn : (Value.slice b.ba s.bin.length b.bc).ownBlock = some g ∨ g = V.heap.size) (L) : LnFr w (w8.setCell ⟨sb, i, none⟩ u) sb s { s with bin := L } b { b with ba := some ⟨g, 0, none⟩, bc := cap } := by
 intro q hq n
 have hne : (Value.slice b.ba s.bin.length b.bc).ownBlock ≠ some q := n.2.2.2.2.2
 have h1 : (w8.setCell ⟨sb, i, none⟩ u).heap[q]? = w.heap[q]? := by
  rw [Below.heap_setCell w8 ⟨sb, i, none⟩ u q n.1, hg.block q (by have := hB.size; omega) (fun e => hne e.symm), hB.block q hq]
 have h2 : (Value.slice (some ⟨g, 0, none⟩) L.length cap).ownBlock ≠ some q := by
  intro e
  have e2 : g = q := Option.some.inj e
  rcases hn with h | h
  ·exact hne (by rw [h, e2])
  ·have := hB.size; omega
 exact ⟨h1, n.1, n.2.1, n.2.2.1, n.2.2.2.1, n.2.2.2.2.1, h2⟩
theorem fr_S {w V : World} {sb : Nat} {s : Sto} {b : StA} {x y : Int} {u v : Value} (hB : Below w.heap.size w V) : LnFr w ((V.setCell ⟨sb, 0, none⟩ u).setCell ⟨sb, 1, none⟩ v) sb s { s with least := x, wait := y } b b := by
 intro q hq n
 refine ⟨?_, n⟩
 rw [Below.heap_setCell _ ⟨sb, 1, none⟩ v q n.1, Below.heap_setCell _ ⟨sb, 0, none⟩ u q n.1, hB.block q hq]
theorem few13_any (l : List UInt8) (hl : l.length ≤ 1000000000000) (w : World) : Calls Tryz.prog 56 #[.string (Tx.mk l), .int .i64 13] w fun e w' => ∃ v : Int, e = .returned (.tuple #[.int .i64 v, .bool (St.num13 l).isSome]) ∧ (∀ n : Nat, St.num13 l = some n → v = n) ∧ Below w.heap.size w w' := by
 refine (few13_is l hl w).mono ?_
 rintro e w' (⟨n, hr, rfl, hB⟩ | ⟨q, hr, rfl, hB⟩)
 ·exact ⟨n, by rw [hr]; rfl, fun m hm => by rw [hr] at hm; cases hm; rfl, hB⟩
 ·exact ⟨q, by rw [hr]; rfl, fun m hm => (by rw [hr] at hm; cases hm), hB⟩
structure LnSt (w wr : World) (sb : Nat) (s : Sto) (b : StA) (L : List (List UInt8)) (g6 g7 : Nat) : Prop where
 cw : ∀ i x, L[i]? = some x → wr.cell? ⟨w.heap.size, i, none⟩ = some (.string (Tx.mk x))
 ci : ∀ i x (v : Nat), L[i]? = some x → St.num13 x = some v → wr.cell? ⟨g6, i, none⟩ = some (.int .i64 (v : Int))
 cb : ∀ i x, L[i]? = some x → wr.cell? ⟨g7, i, none⟩ = some (.bool (St.num13 x).isSome)
 io : StIO wr sb s b
 bw : Below w.heap.size w wr
 nb : ∀ q, w.heap.size ≤ q → NoB sb s b q
 gl : w.heap.size ≤ g6 ∧ sb < w.heap.size
theorem LnSt.keep {w wr V : World} {sb : Nat} {s : Sto} {b : StA} {L : List (List UInt8)} {g6 g7 : Nat} (h : LnSt w wr sb s b L g6 g7) (hb : Below wr.heap.size wr V) : LnSt w V sb s b L g6 g7 :=
 ⟨fun i x hx => cell_below hb (h.cw i x hx), fun i x v hx hv => cell_below hb (h.ci i x v hx hv), fun i x hx => cell_below hb (h.cb i x hx), h.io.keep hb, below_up h.bw hb, h.nb, h.gl⟩
theorem LnSt.down {w wr : World} {sb : Nat} {s : Sto} {b : StA} {L : List (List UInt8)} {g6 g7 : Nat} (h : LnSt w wr sb s b L g6 g7) : Below sb w wr := ⟨h.bw.os, h.bw.tape, h.bw.output, h.bw.size, fun k hk => h.bw.block k (by have := h.gl; omega)⟩
theorem cell_grown {V W' : World} {q i : Nat} {v : Value} {r : Option Nat} (h : V.cell? ⟨q, i, none⟩ = some v) (hg : V.grownBy W' r) (hne : r ≠ some q) : W'.cell? ⟨q, i, none⟩ = some v := by
 have hlt := World.block_lt_of_cell? V _ h
 have := hg.block q hlt (fun e => hne e.symm)
 unfold World.cell? at h ⊢
 rw [this]; exact h
theorem line_empty (l : List UInt8) (L : List (List UInt8)) (s : Sto) (b : StA) (sb : Nat) (w : World) (hm : Mx w) (hS : StIO w sb s b) (hl : l.length ≤ 999999) (hk : Pr.spl 32 l = L) (hne : [] ∈ L) :
  Calls Tryz.prog 19 #[.pointer (some ⟨sb, 0, none⟩), .string (Tx.mk l)] w (LinePost w sb s b L) := by
 have HNE := Lib.hid (St.ent_empty hne)
 have hne2 := decide_eq_true hne
 clear hne
 have hlL : ∀ x ∈ L, x.length ≤ 1000000000000 := fun x hx => by
  have := Pr.spl_mem_le 32 l x (by rw [hk]; exact hx)
  omega
 have hLn : L.length ≤ 1000000 := by have := Pr.spl_len_le 32 l; rw [hk] at this; omega
 have hLp : 0 < L.length := by rw [← hk]; exact List.length_pos_iff.2 (Pr.spl_ne 32 l)
 have HSP := Lib.hid (split_is l 32 (by omega) w hm)
 rw [hk] at HSP
 obtain ⟨n, hn⟩ : ∃ n, L.length = n := ⟨_, rfl⟩
 have HNL := Lib.hid hn
 have HCN : Hid (∀ V sa, RowE St.eS V sa (L.map Tx.mk) → Calls Tryz.prog 55 #[.slice sa n n, .string ⟨#[]⟩] V fun e w' => e = .returned (.bool (decide ([] ∈ L))) ∧ V = w') := Lib.hid fun V sa hr => by
  have := containsW_is [] L sa n V hr hLn
  rwa [hn] at this
 rw [hn] at HSP hLn hLp
 have HFW := Lib.hid (fun x (hx : x ∈ L) V => few13_any x (hlL x hx) V)
 have HIO := Lib.hid hS
 have HK := Lib.hid hk
 have HLL := Lib.hid hlL
 clear hlL hk hS hn
 go_enter Tryz.func19, Tryz.ntmps19
 go_upto_region 2 with (go_at_call 12; (with_reducible refine HSP.out.mono ?_); rintro e w1 ⟨rfl, hrow, hB1, hz1⟩)
 have HROW := Lib.hid hrow; have HB1 := Lib.hid hB1; have HZ1 := Lib.hid hz1
 clear hrow hB1 hz1 HSP
 rw [hne2] at HCN
 go_wp2_with (go_at_call 55; (with_reducible refine (HCN.out w1 _ HROW.out.rowE).mono ?_); rintro e w2 ⟨rfl, rfl⟩)
 go_ret
 have hlt := (Array.getElem?_eq_some_iff.1 HIO.out.blk).1
 exact ⟨⟨HB1.out.os, HB1.out.tape, HB1.out.output, HB1.out.size, fun k hk => HB1.out.block k (by omega)⟩, .inr ⟨HNE.out, rfl⟩⟩
theorem St.secW_six {k : List UInt8} (h : St.secW k = 6) : k ≠ St.kS ∧ k ≠ St.kT ∧ k ≠ St.kF ∧ k ≠ St.kC ∧ k ≠ St.kH ∧ k ≠ St.kB := by
 refine ⟨?_, ?_, ?_, ?_, ?_, ?_⟩ <;> rintro rfl <;> exact absurd h (by decide)
theorem mkNe {k u : List UInt8} (h : k ≠ u) : ¬ Tx.mk k = Tx.mk u ∧ ((Tx.mk k).toList == u) = false ∧ ¬ (Tx.mk k).toList = u := by
 have h3 : ¬ (Tx.mk k).toList = u := by rw [ByteArray.toList_eq]; exact h
 refine ⟨fun e => h ?_, by rw [beq_eq_false_iff_ne]; exact h3, h3⟩
 have := congrArg (fun b : ByteArray => b.data.toList) e
 exact this
theorem line_other (k : List UInt8) (h6 : St.secW k = 6) (l : List UInt8) (R : List (List UInt8)) (s : Sto) (b : StA) (sb : Nat) (w : World) (hm : Mx w) (hS : StIO w sb s b) (hl : l.length ≤ 999999) (hk : Pr.spl 32 l = k :: R) (hne : [] ∉ k :: R) (hct : s.tiers.length ≤ 900000 ∧ s.files.length ≤ 900000 ∧ s.copies.length ≤ 900000 ∧ s.held.length ≤ 900000 ∧ s.bin.length ≤ 900000) : Calls Tryz.prog 19 #[.pointer (some ⟨sb, 0, none⟩), .string (Tx.mk l)] w (LinePost w sb s b (k :: R)) := by
 have HNE := Lib.hid hne
 have HEN : Hid (St.ent (k :: R) = none) := Lib.hid (by show St.entK (St.secW k) R = none; rw [h6]; rfl)
 obtain ⟨d1, d2, d3, d4, d5, d6⟩ := St.secW_six h6
 have D1 := Lib.hid (mkNe d1); have D2 := Lib.hid (mkNe d2); have D3 := Lib.hid (mkNe d3); have D4 := Lib.hid (mkNe d4); have D5 := Lib.hid (mkNe d5); have D6 := Lib.hid (mkNe d6)
 obtain ⟨L, hL⟩ : ∃ L, k :: R = L := ⟨_, rfl⟩
 have HLE := Lib.hid hL
 rw [hL] at hk HNE HEN ⊢
 clear hne hct hL h6 d1 d2 d3 d4 d5 d6
 have hlL : ∀ x ∈ L, x.length ≤ 1000000000000 := fun x hx => by
  have := Pr.spl_mem_le 32 l x (by rw [hk]; exact hx)
  omega
 have hLn : L.length ≤ 1000000 := by have := Pr.spl_len_le 32 l; rw [hk] at this; omega
 have hLp : 0 < L.length := by rw [← hk]; exact List.length_pos_iff.2 (Pr.spl_ne 32 l)
 have HSP := Lib.hid (split_is l 32 (by omega) w hm)
 rw [hk] at HSP
 obtain ⟨n, hn⟩ : ∃ n, L.length = n := ⟨_, rfl⟩
 have HNL := Lib.hid hn
 have HCN : Hid (∀ V sa, RowE St.eS V sa (L.map Tx.mk) → Calls Tryz.prog 55 #[.slice sa n n, .string ⟨#[]⟩] V fun e w' => e = .returned (.bool (decide ([] ∈ L))) ∧ V = w') := Lib.hid fun V sa hr => by
  have := containsW_is [] L sa n V hr hLn
  rwa [hn] at this
 rw [hn] at HSP hLn hLp
 have HFW := Lib.hid (fun x (hx : x ∈ L) V => few13_any x (hlL x hx) V)
 have HIO := Lib.hid hS
 have HK := Lib.hid hk
 have HLL := Lib.hid hlL
 clear hlL hk hS hn
 go_enter Tryz.func19, Tryz.ntmps19
 go_upto_region 2 with (go_at_call 12; (with_reducible refine HSP.out.mono ?_); rintro e w1 ⟨rfl, hrow, hB1, hz1⟩)
 have HROW := Lib.hid hrow; have HB1 := Lib.hid hB1; have HZ1 := Lib.hid hz1
 clear hrow hB1 hz1 HSP
 rw [decide_eq_false HNE.out] at HCN
 go_upto_region 4 with (go_at_call 55; (with_reducible refine (HCN.out w1 _ HROW.out.rowE).mono ?_); rintro e w2 ⟨rfl, rfl⟩)
 clear HCN
 go_wp2_with fail
 go_loopg [6, 7, 19] n (fun gk v6 v7 i wr => ∃ (j : Nat) (ns : List Int), j ≤ n ∧ gk = n - j ∧ i = .int .i64 j ∧ ns.length = j ∧ (∀ i x (v : Nat), i < j → L[i]? = some x → St.num13 x = some v → ns[i]? = some (v : Int)) ∧ wr.ownsRow w1.heap.size 3 1 v6 j (ns.map (.int .i64)) ∧ wr.ownsRow w1.heap.size 4 1 v7 j ((L.take j).map (fun x => .bool (St.num13 x).isSome)) ∧ Below w1.heap.size w1 wr)
 case atStart => exact ⟨0, [], by omega, rfl, rfl, rfl, fun i x v h => by omega, ⟨rfl, .inl ⟨rfl, rfl⟩⟩, ⟨rfl, .inl ⟨rfl, rfl⟩⟩, Below.refl _ _⟩
 case round =>
  obtain ⟨j, ns, hj, rfl, rfl, hnl, hnv, ho6, ho7, hB⟩ := hrel
  have HNV := Lib.hid hnv; have HNN := Lib.hid hnl
  clear hnv hnl
  by_cases hlt : j < n
  ·obtain ⟨x, hx⟩ : ∃ x, L[j]? = some x := ⟨_, List.getElem?_eq_getElem (by rw [HNL.out]; exact hlt)⟩
   have c0 : wr.cell? ⟨w.heap.size, j, none⟩ = some (.string (Tx.mk x)) := by
    have := (HROW.out.keep hB).2 j (by rw [HNL.out]; exact hlt)
    rw [List.getD_eq_getElem?_getD, hx] at this
    exact this
   have hj0 : (0 : Int) ≤ (j : Int) := by omega
   have hj1 : (j : Int) < (n : Int) := by omega
   have HX := Lib.hid hx
   have HF := Lib.hid (HFW.out x (List.mem_of_getElem? hx))
   have HO6 := Lib.hid ho6; have HO7 := Lib.hid ho7; have HB := Lib.hid hB
   obtain ⟨N6, hN6⟩ : ∃ N6, ns.map (Value.int .i64) = N6 := ⟨_, rfl⟩
   obtain ⟨N7, hN7⟩ : ∃ N7, (L.take j).map (fun x => Value.bool (St.num13 x).isSome) = N7 := ⟨_, rfl⟩
   have H6 := Lib.hid hN6; have H7 := Lib.hid hN7
   rw [hN6] at HO6
   rw [hN7] at HO7
   obtain ⟨ok, hok⟩ : ∃ ok, (St.num13 x).isSome = ok := ⟨_, rfl⟩
   rw [hok] at HF
   have HOK := Lib.hid hok
   clear hx ho6 ho7 hB hN6 hN7 hok
   go_wp2_with (first
    | (go_at_call 56; (with_reducible refine (HF.out wr).mono ?_); rintro e w3 ⟨v, rfl, hv, hB3⟩; have h6 := own_keepE HO6.out hB3; have h7 := own_keepE HO7.out hB3; have hBw := below_up HB.out hB3; have hsw := hBw.size)
    | (at_builtin; (refine list_appI rfl _ _ rfl _ _ j N6 (by rfl) (by rfl) h6 (by omega) (by omega) (by rfl) (by simp [Value.oneCell']) ?_; intro g8 cap8 w8 hown8 hgrow8; have hB8 := below_grownE (below_allocs hBw _) (h6.alloc _) hgrow8 (by simp; omega); have h78 := (own_keepE h7 ((Below.refl _ _).alloc (Nat.le_refl _) _)).kept hgrow8 (rp_apart h6 h7 (by decide)); have hs8 := hB8.size))
    | (at_builtin; refine list_appB rfl _ _ rfl _ _ j N7 (by rfl) (by rfl) h78 (by omega) (by omega) (by rfl) (by simp [Value.oneCell']) ?_; intro g9 cap9 w9 hown9 hgrow9))
   go_roundg (n - (j + 1))
   case rel =>
    refine ⟨j + 1, ns ++ [v], by omega, rfl, by go_num, by simp [HNN.out], ?_, ?_, ?_, ?_⟩
    ·intro i y u hi hy hu
     rcases Nat.lt_or_ge i j with h | h
     ·rw [List.getElem?_append_left (by rw [HNN.out]; exact h)]; exact HNV.out i y u h hy hu
     ·obtain rfl : i = j := by omega
      rw [HX.out] at hy; cases hy
      rw [List.getElem?_append_right (by rw [HNN.out]; exact Nat.le_refl _), HNN.out, Nat.sub_self, hv u hu]; rfl
    ·have e6 : (ns ++ [v]).map (Value.int .i64) = N6 ++ [.int .i64 v] := by rw [List.map_append, H6.out]; rfl
     rw [e6]
     exact (own_keepE hown8 ((Below.refl _ _).alloc (Nat.le_refl _) _)).kept hgrow9 (rp_apart h78 hown8 (by decide))
    ·have e7 : (L.take (j + 1)).map (fun x => Value.bool (St.num13 x).isSome) = N7 ++ [.bool ok] := by
      rw [List.take_add_one, HX.out, List.map_append, H7.out]; simp [HOK.out]
     rw [e7]
     exact hown9
    ·exact below_grownE (below_allocs hB8 _) (h78.alloc _) hgrow9 (by simp; omega)
   case measure => omega
  ·obtain rfl : n = j := by omega
   have hlt0 : 0 < n := hLp
   obtain ⟨g6, cap6, rfl, hc6⟩ : ∃ g cap, u6 = .slice (some ⟨g, 0, none⟩) n cap ∧ OwnC wr w1.heap.size 3 1 g n cap (ns.map (Value.int .i64)) := by
    rcases OwnV.of_own ho6 with ⟨_, h0, _⟩ | h
    ·omega
    ·exact h
   obtain ⟨g7, cap7, rfl, hc7⟩ : ∃ g cap, u7 = .slice (some ⟨g, 0, none⟩) n cap ∧ OwnC wr w1.heap.size 4 1 g n cap ((L.take n).map (fun x => Value.bool (St.num13 x).isSome)) := by
    rcases OwnV.of_own ho7 with ⟨_, h0, _⟩ | h
    ·omega
    ·exact h
   have HLS : Hid (LnSt w wr sb s b L g6 g7) := Lib.hid
    ⟨fun i x hx => by
      have hi := (List.getElem?_eq_some_iff.1 hx).1
      have := (HROW.out.keep hB).2 i hi
      rw [List.getD_eq_getElem?_getD, hx] at this
      exact this,
     fun i x v hx hv => by
      have hi := (List.getElem?_eq_some_iff.1 hx).1
      rw [HNL.out] at hi
      rw [ho6.cellAt i (by omega), List.getElem?_map, HNV.out i x v hi hx hv]; rfl,
     fun i x hx => by
      have hi := (List.getElem?_eq_some_iff.1 hx).1
      have ht : L.take n = L := List.take_of_length_le (by rw [HNL.out]; exact Nat.le_refl _)
      rw [ht] at ho7
      rw [ho7.cellAt i (by have := HNL.out; omega), List.getElem?_map, hx]; rfl,
     HIO.out.keep (below_up HB1.out hB), below_up HB1.out hB, fun q hq => HIO.out.noB hq, ⟨by have := (ho6.lt g6 rfl).1; have := HB1.out.size; omega, (Array.getElem?_eq_some_iff.1 HIO.out.blk).1⟩⟩
   have hnn := HNL.out
   clear ho6 ho7 hc6 hc7 hB HNV HNN HFW HROW HB1 HZ1 HIO HLL
   have c0 := HLS.out.cw 0 k (by rw [← HLE.out]; rfl)
   generalize hpz : Tx.mk k = pz at *
   obtain ⟨p1, p2, p3⟩ := D1.out
   obtain ⟨p4, p5, p6⟩ := D2.out
   obtain ⟨p7, p8, p9⟩ := D3.out
   obtain ⟨q1, q2, q3⟩ := D4.out
   obtain ⟨q4, q5, q6⟩ := D5.out
   obtain ⟨q7, q8, q9⟩ := D6.out
   unfold St.kS at p1 p2 p3
   unfold St.kT at p4 p5 p6
   unfold St.kF at p7 p8 p9
   unfold St.kC at q1 q2 q3
   unfold St.kH at q4 q5 q6
   unfold St.kB at q7 q8 q9
   clear hpz
   go_wp2_with fail
   go_ret
   exact ⟨HLS.out.down, .inr ⟨HEN.out, rfl⟩⟩

theorem step_appT9 {ops : Array Oper} {o : Oper} {a : Act} {V : World} {cs : Array Value} {K : Act → World → Prop} {Q : Exit → Act → World → Prop} {E : Prop} (hgd : o.guard = none) (s x : Operand)
  (ho : o.op = .call { callee := .builtin .append, args := #[s, x], argTypes := #[22, 22] }) (base : Nat) (v : Value) (n : Nat) (xs : List Value) (hs : a.eval s = v) (hx : a.eval x = .slice (some ⟨V.heap.size, 0, none⟩) 1 1)
  (hown : V.ownsRow base 65 4 v n xs) (hn : n ≤ 1000000) (hb : base ≤ V.heap.size) (hcs : cs.toList.length = 1 * 4) (h1 : ∀ u ∈ cs.toList, u.oneCell' = true)
  (h : ∀ g cap w', w'.ownsRow base 65 4 (.slice (some ⟨g, 0, none⟩) (n + 1) cap) (n + 1) (xs ++ cs.toList) → (V.alloc (.cells cs 65)).grownBy w' v.ownBlock → (v.ownBlock = some g ∨ g = (V.alloc (.cells cs 65)).heap.size) → K (a.put o.dst (.slice (some ⟨g, 0, none⟩) (n + 1) cap)) w') :
  if Region.wanted o (yielded ops a.tmps) = true then Oper.wp Tryz.prog o a (V.alloc (.cells cs 65)) K Q else E := by
 obtain ⟨i0, hi0, hi1, hi2, hi3⟩ := info_parts infoTir
 exact step_append_lies _ hgd s x _ ho base 65 i0 (.agg #[.string ByteArray.empty, .int .i64 0, .int .i64 0, .bool false]) 4 40 Tryz.underlying22 hi0 hi1 hi2 hi3 rfl (by decide) v n xs hs (hown.alloc _) ⟨V.heap.size, 0, none⟩ 1 1 cs.toList hx hcs
  (World.news_of_block (cs := cs) (t := 65) (fr := (0, 0)) (Blk.new V cs 65)) h1 (by decide) (by unfold maxLen; omega) (by omega) (by simp; omega) _ rfl (fun g cap w' h1 h2 h3 _ => h g cap w' h1 h2 h3)

theorem step_appC9 {ops : Array Oper} {o : Oper} {a : Act} {V : World} {cs : Array Value} {K : Act → World → Prop} {Q : Exit → Act → World → Prop} {E : Prop} (hgd : o.guard = none) (s x : Operand)
  (ho : o.op = .call { callee := .builtin .append, args := #[s, x], argTypes := #[24, 24] }) (base : Nat) (v : Value) (n : Nat) (xs : List Value) (hs : a.eval s = v) (hx : a.eval x = .slice (some ⟨V.heap.size, 0, none⟩) 1 1)
  (hown : V.ownsRow base 70 4 v n xs) (hn : n ≤ 1000000) (hb : base ≤ V.heap.size) (hcs : cs.toList.length = 1 * 4) (h1 : ∀ u ∈ cs.toList, u.oneCell' = true)
  (h : ∀ g cap w', w'.ownsRow base 70 4 (.slice (some ⟨g, 0, none⟩) (n + 1) cap) (n + 1) (xs ++ cs.toList) → (V.alloc (.cells cs 70)).grownBy w' v.ownBlock → (v.ownBlock = some g ∨ g = (V.alloc (.cells cs 70)).heap.size) → K (a.put o.dst (.slice (some ⟨g, 0, none⟩) (n + 1) cap)) w') :
  if Region.wanted o (yielded ops a.tmps) = true then Oper.wp Tryz.prog o a (V.alloc (.cells cs 70)) K Q else E := by
 obtain ⟨i0, hi0, hi1, hi2, hi3⟩ := info_parts infoCop
 exact step_append_lies _ hgd s x _ ho base 70 i0 (.agg #[.string ByteArray.empty, .string ByteArray.empty, .bool false, .int .i64 0]) 4 48 Tryz.underlying24 hi0 hi1 hi2 hi3 rfl (by decide) v n xs hs (hown.alloc _) ⟨V.heap.size, 0, none⟩ 1 1 cs.toList hx hcs
  (World.news_of_block (cs := cs) (t := 70) (fr := (0, 0)) (Blk.new V cs 70)) h1 (by decide) (by unfold maxLen; omega) (by omega) (by simp; omega) _ rfl (fun g cap w' h1 h2 h3 _ => h g cap w' h1 h2 h3)

theorem step_appS9 {ops : Array Oper} {o : Oper} {a : Act} {V : World} {cs : Array Value} {K : Act → World → Prop} {Q : Exit → Act → World → Prop} {E : Prop} (hgd : o.guard = none) (s x : Operand)
  (ho : o.op = .call { callee := .builtin .append, args := #[s, x], argTypes := #[25, 25] }) (base : Nat) (v : Value) (n : Nat) (xs : List Value) (hs : a.eval s = v) (hx : a.eval x = .slice (some ⟨V.heap.size, 0, none⟩) 1 1)
  (hown : V.ownsRow base 9 1 v n xs) (hn : n ≤ 1000000) (hb : base ≤ V.heap.size) (hcs : cs.toList.length = 1 * 1) (h1 : ∀ u ∈ cs.toList, u.oneCell' = true)
  (h : ∀ g cap w', w'.ownsRow base 9 1 (.slice (some ⟨g, 0, none⟩) (n + 1) cap) (n + 1) (xs ++ cs.toList) → (V.alloc (.cells cs 9)).grownBy w' v.ownBlock → (v.ownBlock = some g ∨ g = (V.alloc (.cells cs 9)).heap.size) → K (a.put o.dst (.slice (some ⟨g, 0, none⟩) (n + 1) cap)) w') :
  if Region.wanted o (yielded ops a.tmps) = true then Oper.wp Tryz.prog o a (V.alloc (.cells cs 9)) K Q else E := by
 obtain ⟨i0, hi0, hi1, hi2, hi3⟩ := info_parts infoStS
 exact step_append_lies _ hgd s x _ ho base 9 i0 (.string ByteArray.empty) 1 16 Tryz.underlying25 hi0 hi1 hi2 hi3 rfl (by decide) v n xs hs (hown.alloc _) ⟨V.heap.size, 0, none⟩ 1 1 cs.toList hx hcs
  (World.news_of_block (cs := cs) (t := 9) (fr := (0, 0)) (Blk.new V cs 9)) h1 (by decide) (by unfold maxLen; omega) (by omega) (by simp; omega) _ rfl (fun g cap w' h1 h2 h3 _ => h g cap w' h1 h2 h3)

theorem step_appG9 {ops : Array Oper} {o : Oper} {a : Act} {V : World} {cs : Array Value} {K : Act → World → Prop} {Q : Exit → Act → World → Prop} {E : Prop} (hgd : o.guard = none) (s x : Operand)
  (ho : o.op = .call { callee := .builtin .append, args := #[s, x], argTypes := #[26, 26] }) (base : Nat) (v : Value) (n : Nat) (xs : List Value) (hs : a.eval s = v) (hx : a.eval x = .slice (some ⟨V.heap.size, 0, none⟩) 1 1)
  (hown : V.ownsRow base 72 2 v n xs) (hn : n ≤ 1000000) (hb : base ≤ V.heap.size) (hcs : cs.toList.length = 1 * 2) (h1 : ∀ u ∈ cs.toList, u.oneCell' = true)
  (h : ∀ g cap w', w'.ownsRow base 72 2 (.slice (some ⟨g, 0, none⟩) (n + 1) cap) (n + 1) (xs ++ cs.toList) → (V.alloc (.cells cs 72)).grownBy w' v.ownBlock → (v.ownBlock = some g ∨ g = (V.alloc (.cells cs 72)).heap.size) → K (a.put o.dst (.slice (some ⟨g, 0, none⟩) (n + 1) cap)) w') :
  if Region.wanted o (yielded ops a.tmps) = true then Oper.wp Tryz.prog o a (V.alloc (.cells cs 72)) K Q else E := by
 obtain ⟨i0, hi0, hi1, hi2, hi3⟩ := info_parts infoGon
 exact step_append_lies _ hgd s x _ ho base 72 i0 (.agg #[.string ByteArray.empty, .int .i64 0]) 2 24 Tryz.underlying26 hi0 hi1 hi2 hi3 rfl (by decide) v n xs hs (hown.alloc _) ⟨V.heap.size, 0, none⟩ 1 1 cs.toList hx hcs
  (World.news_of_block (cs := cs) (t := 72) (fr := (0, 0)) (Blk.new V cs 72)) h1 (by decide) (by unfold maxLen; omega) (by omega) (by simp; omega) _ rfl (fun g cap w' h1 h2 h3 _ => h g cap w' h1 h2 h3)

theorem step_appF9 {ops : Array Oper} {o : Oper} {a : Act} {V : World} {cs : Array Value} {K : Act → World → Prop} {Q : Exit → Act → World → Prop} {E : Prop} (hgd : o.guard = none) (s x : Operand)
  (ho : o.op = .call { callee := .builtin .append, args := #[s, x], argTypes := #[23, 23] }) (base : Nat) (v : Value) (n : Nat) (xs : List Value) (hs : a.eval s = v) (hx : a.eval x = .slice (some ⟨V.heap.size, 0, none⟩) 1 1)
  (hown : V.ownsRow base 68 4 v n xs) (hn : n ≤ 1000000) (hb : base ≤ V.heap.size) (hcs : cs.toList.length = 1 * 4) (h1 : ∀ u ∈ cs.toList, u.oneCell' = true)
  (h : ∀ g cap w', w'.ownsRow base 68 4 (.slice (some ⟨g, 0, none⟩) (n + 1) cap) (n + 1) (xs ++ cs.toList) → (V.alloc (.cells cs 68)).grownBy w' v.ownBlock → (v.ownBlock = some g ∨ g = (V.alloc (.cells cs 68)).heap.size) → K (a.put o.dst (.slice (some ⟨g, 0, none⟩) (n + 1) cap)) w') :
  if Region.wanted o (yielded ops a.tmps) = true then Oper.wp Tryz.prog o a (V.alloc (.cells cs 68)) K Q else E := by
 obtain ⟨i0, hi0, hi1, hi2, hi3⟩ := info_parts infoFil
 exact step_append_lies _ hgd s x _ ho base 68 i0 (.agg #[.string ByteArray.empty, .int .i64 0, .int .i64 0, .string ByteArray.empty]) 4 48 Tryz.underlying23 hi0 hi1 hi2 hi3 rfl (by decide) v n xs hs (hown.alloc _) ⟨V.heap.size, 0, none⟩ 1 1 cs.toList hx hcs
  (World.news_of_block (cs := cs) (t := 68) (fr := (0, 0)) (Blk.new V cs 68)) h1 (by decide) (by unfold maxLen; omega) (by omega) (by simp; omega) _ rfl (fun g cap w' h1 h2 h3 _ => h g cap w' h1 h2 h3)
theorem St.entS_len {R : List (List UInt8)} (h : ¬ R.length = 2) : St.ent (St.kS :: R) = none := by
 show St.entS R = none
 match R, h with
 | [], _ => rfl
 | [_], _ => rfl
 | [_, _], h => exact absurd rfl h
 | _ :: _ :: _ :: _, _ => rfl
theorem St.entT_len {R : List (List UInt8)} (h : ¬ R.length = 4) : St.ent (St.kT :: R) = none := by
 show St.entT R = none
 match R, h with
 | [], _ => rfl
 | [_], _ => rfl
 | [_, _], _ => rfl
 | [_, _, _], _ => rfl
 | [_, _, _, _], h => exact absurd rfl h
 | _ :: _ :: _ :: _ :: _ :: _, _ => rfl
theorem line_store (l : List UInt8) (R : List (List UInt8)) (s : Sto) (b : StA) (sb : Nat) (w : World) (hm : Mx w) (hS : StIO w sb s b) (hl : l.length ≤ 999999) (hk : Pr.spl 32 l = St.kS :: R) (hne : [] ∉ St.kS :: R) (hct : s.tiers.length ≤ 900000 ∧ s.files.length ≤ 900000 ∧ s.copies.length ≤ 900000 ∧ s.held.length ≤ 900000 ∧ s.bin.length ≤ 900000) : Calls Tryz.prog 19 #[.pointer (some ⟨sb, 0, none⟩), .string (Tx.mk l)] w (LinePost w sb s b (St.kS :: R)) := by
 have HNE := Lib.hid hne
 have HCT := Lib.hid hct
 obtain ⟨L, hL⟩ : ∃ L, St.kS :: R = L := ⟨_, rfl⟩
 have HLE := Lib.hid hL
 rw [hL] at hk HNE ⊢
 clear hne hct hL
 have hlL : ∀ x ∈ L, x.length ≤ 1000000000000 := fun x hx => by
  have := Pr.spl_mem_le 32 l x (by rw [hk]; exact hx)
  omega
 have hLn : L.length ≤ 1000000 := by have := Pr.spl_len_le 32 l; rw [hk] at this; omega
 have hLp : 0 < L.length := by rw [← hk]; exact List.length_pos_iff.2 (Pr.spl_ne 32 l)
 have HSP := Lib.hid (split_is l 32 (by omega) w hm)
 rw [hk] at HSP
 obtain ⟨n, hn⟩ : ∃ n, L.length = n := ⟨_, rfl⟩
 have HNL := Lib.hid hn
 have HCN : Hid (∀ V sa, RowE St.eS V sa (L.map Tx.mk) → Calls Tryz.prog 55 #[.slice sa n n, .string ⟨#[]⟩] V fun e w' => e = .returned (.bool (decide ([] ∈ L))) ∧ V = w') := Lib.hid fun V sa hr => by
  have := containsW_is [] L sa n V hr hLn
  rwa [hn] at this
 rw [hn] at HSP hLn hLp
 have HFW := Lib.hid (fun x (hx : x ∈ L) V => few13_any x (hlL x hx) V)
 have HIO := Lib.hid hS
 have HK := Lib.hid hk
 have HLL := Lib.hid hlL
 clear hlL hk hS hn
 go_enter Tryz.func19, Tryz.ntmps19
 go_upto_region 2 with (go_at_call 12; (with_reducible refine HSP.out.mono ?_); rintro e w1 ⟨rfl, hrow, hB1, hz1⟩)
 have HROW := Lib.hid hrow; have HB1 := Lib.hid hB1; have HZ1 := Lib.hid hz1
 clear hrow hB1 hz1 HSP
 rw [decide_eq_false HNE.out] at HCN
 go_upto_region 4 with (go_at_call 55; (with_reducible refine (HCN.out w1 _ HROW.out.rowE).mono ?_); rintro e w2 ⟨rfl, rfl⟩)
 clear HCN
 go_wp2_with fail
 go_loopg [6, 7, 19] n (fun gk v6 v7 i wr => ∃ (j : Nat) (ns : List Int), j ≤ n ∧ gk = n - j ∧ i = .int .i64 j ∧ ns.length = j ∧ (∀ i x (v : Nat), i < j → L[i]? = some x → St.num13 x = some v → ns[i]? = some (v : Int)) ∧ wr.ownsRow w1.heap.size 3 1 v6 j (ns.map (.int .i64)) ∧ wr.ownsRow w1.heap.size 4 1 v7 j ((L.take j).map (fun x => .bool (St.num13 x).isSome)) ∧ Below w1.heap.size w1 wr)
 case atStart => exact ⟨0, [], by omega, rfl, rfl, rfl, fun i x v h => by omega, ⟨rfl, .inl ⟨rfl, rfl⟩⟩, ⟨rfl, .inl ⟨rfl, rfl⟩⟩, Below.refl _ _⟩
 case round =>
  obtain ⟨j, ns, hj, rfl, rfl, hnl, hnv, ho6, ho7, hB⟩ := hrel
  have HNV := Lib.hid hnv; have HNN := Lib.hid hnl
  clear hnv hnl
  by_cases hlt : j < n
  ·obtain ⟨x, hx⟩ : ∃ x, L[j]? = some x := ⟨_, List.getElem?_eq_getElem (by rw [HNL.out]; exact hlt)⟩
   have c0 : wr.cell? ⟨w.heap.size, j, none⟩ = some (.string (Tx.mk x)) := by
    have := (HROW.out.keep hB).2 j (by rw [HNL.out]; exact hlt)
    rw [List.getD_eq_getElem?_getD, hx] at this
    exact this
   have hj0 : (0 : Int) ≤ (j : Int) := by omega
   have hj1 : (j : Int) < (n : Int) := by omega
   have HX := Lib.hid hx
   have HF := Lib.hid (HFW.out x (List.mem_of_getElem? hx))
   have HO6 := Lib.hid ho6; have HO7 := Lib.hid ho7; have HB := Lib.hid hB
   obtain ⟨N6, hN6⟩ : ∃ N6, ns.map (Value.int .i64) = N6 := ⟨_, rfl⟩
   obtain ⟨N7, hN7⟩ : ∃ N7, (L.take j).map (fun x => Value.bool (St.num13 x).isSome) = N7 := ⟨_, rfl⟩
   have H6 := Lib.hid hN6; have H7 := Lib.hid hN7
   rw [hN6] at HO6
   rw [hN7] at HO7
   obtain ⟨ok, hok⟩ : ∃ ok, (St.num13 x).isSome = ok := ⟨_, rfl⟩
   rw [hok] at HF
   have HOK := Lib.hid hok
   clear hx ho6 ho7 hB hN6 hN7 hok
   go_wp2_with (first
    | (go_at_call 56; (with_reducible refine (HF.out wr).mono ?_); rintro e w3 ⟨v, rfl, hv, hB3⟩; have h6 := own_keepE HO6.out hB3; have h7 := own_keepE HO7.out hB3; have hBw := below_up HB.out hB3; have hsw := hBw.size)
    | (at_builtin; (refine list_appI rfl _ _ rfl _ _ j N6 (by rfl) (by rfl) h6 (by omega) (by omega) (by rfl) (by simp [Value.oneCell']) ?_; intro g8 cap8 w8 hown8 hgrow8; have hB8 := below_grownE (below_allocs hBw _) (h6.alloc _) hgrow8 (by simp; omega); have h78 := (own_keepE h7 ((Below.refl _ _).alloc (Nat.le_refl _) _)).kept hgrow8 (rp_apart h6 h7 (by decide)); have hs8 := hB8.size))
    | (at_builtin; refine list_appB rfl _ _ rfl _ _ j N7 (by rfl) (by rfl) h78 (by omega) (by omega) (by rfl) (by simp [Value.oneCell']) ?_; intro g9 cap9 w9 hown9 hgrow9))
   go_roundg (n - (j + 1))
   case rel =>
    refine ⟨j + 1, ns ++ [v], by omega, rfl, by go_num, by simp [HNN.out], ?_, ?_, ?_, ?_⟩
    ·intro i y u hi hy hu
     rcases Nat.lt_or_ge i j with h | h
     ·rw [List.getElem?_append_left (by rw [HNN.out]; exact h)]; exact HNV.out i y u h hy hu
     ·obtain rfl : i = j := by omega
      rw [HX.out] at hy; cases hy
      rw [List.getElem?_append_right (by rw [HNN.out]; exact Nat.le_refl _), HNN.out, Nat.sub_self, hv u hu]; rfl
    ·have e6 : (ns ++ [v]).map (Value.int .i64) = N6 ++ [.int .i64 v] := by rw [List.map_append, H6.out]; rfl
     rw [e6]
     exact (own_keepE hown8 ((Below.refl _ _).alloc (Nat.le_refl _) _)).kept hgrow9 (rp_apart h78 hown8 (by decide))
    ·have e7 : (L.take (j + 1)).map (fun x => Value.bool (St.num13 x).isSome) = N7 ++ [.bool ok] := by
      rw [List.take_add_one, HX.out, List.map_append, H7.out]; simp [HOK.out]
     rw [e7]
     exact hown9
    ·exact below_grownE (below_allocs hB8 _) (h78.alloc _) hgrow9 (by simp; omega)
   case measure => omega
  ·obtain rfl : n = j := by omega
   have hlt0 : 0 < n := hLp
   obtain ⟨g6, cap6, rfl, hc6⟩ : ∃ g cap, u6 = .slice (some ⟨g, 0, none⟩) n cap ∧ OwnC wr w1.heap.size 3 1 g n cap (ns.map (Value.int .i64)) := by
    rcases OwnV.of_own ho6 with ⟨_, h0, _⟩ | h
    ·omega
    ·exact h
   obtain ⟨g7, cap7, rfl, hc7⟩ : ∃ g cap, u7 = .slice (some ⟨g, 0, none⟩) n cap ∧ OwnC wr w1.heap.size 4 1 g n cap ((L.take n).map (fun x => Value.bool (St.num13 x).isSome)) := by
    rcases OwnV.of_own ho7 with ⟨_, h0, _⟩ | h
    ·omega
    ·exact h
   have HLS : Hid (LnSt w wr sb s b L g6 g7) := Lib.hid
    ⟨fun i x hx => by
      have hi := (List.getElem?_eq_some_iff.1 hx).1
      have := (HROW.out.keep hB).2 i hi
      rw [List.getD_eq_getElem?_getD, hx] at this
      exact this,
     fun i x v hx hv => by
      have hi := (List.getElem?_eq_some_iff.1 hx).1
      rw [HNL.out] at hi
      rw [ho6.cellAt i (by omega), List.getElem?_map, HNV.out i x v hi hx hv]; rfl,
     fun i x hx => by
      have hi := (List.getElem?_eq_some_iff.1 hx).1
      have ht : L.take n = L := List.take_of_length_le (by rw [HNL.out]; exact Nat.le_refl _)
      rw [ht] at ho7
      rw [ho7.cellAt i (by have := HNL.out; omega), List.getElem?_map, hx]; rfl,
     HIO.out.keep (below_up HB1.out hB), below_up HB1.out hB, fun q hq => HIO.out.noB hq, ⟨by have := (ho6.lt g6 rfl).1; have := HB1.out.size; omega, (Array.getElem?_eq_some_iff.1 HIO.out.blk).1⟩⟩
   have hnn := HNL.out
   clear ho6 ho7 hc6 hc7 hB HNV HNN HFW HROW HB1 HZ1 HIO HLL
   have c0 : wr.cell? ⟨w.heap.size, 0, none⟩ = some (.string ⟨#[115, 116, 111, 114, 101]⟩) := HLS.out.cw 0 St.kS (by rw [← HLE.out]; rfl)
   have hnR : n = R.length + 1 := by rw [← hnn, ← HLE.out]; rfl
   by_cases hR : R.length = 2
   ·obtain ⟨x, y, rfl⟩ : ∃ x y, R = [x, y] := by
     match R, hR with
     | [x, y], _ => exact ⟨x, y, rfl⟩
    obtain rfl : n = 3 := by simp at hnR; exact hnR
    clear hR hnR hnn
    have CE : Hid (St.ent L = St.entS [x, y]) := Lib.hid (by rw [← HLE.out]; rfl)
    cases hx : St.num13 x with
    | none =>
      have Hx := Lib.hid hx
      clear hx
      have e1 : wr.cell? ⟨g7, 1, none⟩ = some (.bool false) := by have := HLS.out.cb 1 x (by rw [← HLE.out]; rfl); rwa [Hx.out] at this
      go_wp2_with fail
      go_ret
      exact ⟨HLS.out.down, .inr ⟨by rw [CE.out]; unfold St.entS; simp [Hx.out], rfl⟩⟩
    | some vx =>
      have Hx := Lib.hid hx
      clear hx
      have e1 : wr.cell? ⟨g7, 1, none⟩ = some (.bool true) := by have := HLS.out.cb 1 x (by rw [← HLE.out]; rfl); rwa [Hx.out] at this
      cases hy : St.num13 y with
      | none =>
        have Hy := Lib.hid hy
        clear hy
        have e2 : wr.cell? ⟨g7, 2, none⟩ = some (.bool false) := by have := HLS.out.cb 2 y (by rw [← HLE.out]; rfl); rwa [Hy.out] at this
        go_wp2_with fail
        go_ret
        exact ⟨HLS.out.down, .inr ⟨by rw [CE.out]; unfold St.entS; simp [Hx.out, Hy.out], rfl⟩⟩
      | some vy =>
        have Hy := Lib.hid hy
        clear hy
        have e2 : wr.cell? ⟨g7, 2, none⟩ = some (.bool true) := by have := HLS.out.cb 2 y (by rw [← HLE.out]; rfl); rwa [Hy.out] at this
        have i1 := HLS.out.ci 1 x vx (by rw [← HLE.out]; rfl) Hx.out
        have i2 := HLS.out.ci 2 y vy (by rw [← HLE.out]; rfl) Hy.out
        go_upto_region 13 with fail
        have hv : Below wr.heap.size wr wr.drew := (Below.refl _ _).drew
        have hHeld : (fun V : World => V.cell? ⟨g6, 1, none⟩ = some (.int .i64 vx) ∧ V.cell? ⟨g6, 2, none⟩ = some (.int .i64 vy)) wr.drew := ⟨cell_below hv i1, cell_below hv i2⟩
        refine wp_region_until (fun V => V.cell? ⟨g6, 1, none⟩ = some (.int .i64 vx) ∧ V.cell? ⟨g6, 2, none⟩ = some (.int .i64 vy)) 10 (by kernel_rfl) ?_
        refine anyM_take0 (i := 0) (v := ?_) rfl (by decide) (by kernel_rfl) (by kernel_rfl) (by kernel_rfl) (fun _ _ _ h => h) (Or.inl ⟨by rfl, ?_⟩) (fun _ => by assumption) ?_
        rotate_left
        ·(intro w hSw; go_simp; try (with_reducible rfl))
        try go_frame
        refine anyM_take0 (i := 1) (v := ?_) rfl (by decide) (by kernel_rfl) (by kernel_rfl) (by kernel_rfl) (fun _ _ _ h => h) (Or.inl ⟨by rfl, ?_⟩) (fun _ => by assumption) ?_
        rotate_left
        ·(intro w hSw; go_simp; try (with_reducible rfl))
        try go_frame
        refine anyM_take0 (i := 2) (v := ?_) rfl (by decide) (by kernel_rfl) (by kernel_rfl) (by kernel_rfl) (fun _ _ _ h => h) (Or.inl ⟨by rfl, ?_⟩) (fun _ => by assumption) ?_
        rotate_left
        ·(intro w hSw; go_simp; try (with_reducible rfl))
        try go_frame
        refine anyM_take0 (i := 3) (v := ?_) rfl (by decide) (by kernel_rfl) (by kernel_rfl) (by kernel_rfl) (fun _ _ _ h => h) (Or.inl ⟨by rfl, ?_⟩) (fun _ => by assumption) ?_
        rotate_left
        ·(intro w hSw; go_simp; try (with_reducible rfl))
        try go_frame
        refine anyM_take (i := 4) (v := ?_) rfl rfl (by kernel_rfl) (by decide) (by kernel_rfl) (by kernel_rfl) (by kernel_rfl) (fun _ _ _ h => h) (Or.inl ⟨by rfl, ?_⟩) (by rfl) (by assumption) ?_
        rotate_left
        ·(intro w hSw; (try dsimp only at hSw); obtain ⟨hs0, hs1⟩ := hSw; go_simp; try (with_reducible rfl))
        try go_frame
        refine anyM_take0 (i := 5) (v := ?_) rfl (by decide) (by kernel_rfl) (by kernel_rfl) (by kernel_rfl) (fun _ _ _ h => h) (Or.inl ⟨by rfl, ?_⟩) (fun _ => by assumption) ?_
        rotate_left
        ·(intro w hSw; go_simp; try (with_reducible rfl))
        try go_frame
        refine anyM_take0 (i := 6) (v := ?_) rfl (by decide) (by kernel_rfl) (by kernel_rfl) (by kernel_rfl) (fun _ _ _ h => h) (Or.inl ⟨by rfl, ?_⟩) (fun _ => by assumption) ?_
        rotate_left
        ·(intro w hSw; go_simp; try (with_reducible rfl))
        try go_frame
        refine anyM_take (i := 7) (v := ?_) rfl rfl (by kernel_rfl) (by decide) (by kernel_rfl) (by kernel_rfl) (by kernel_rfl) (fun _ _ _ h => h) (Or.inl ⟨by rfl, ?_⟩) (by rfl) (by assumption) ?_
        rotate_left
        ·(intro w hSw; (try dsimp only at hSw); obtain ⟨hs0, hs1⟩ := hSw; go_simp; try (with_reducible rfl))
        try go_frame
        refine anyM_take0 (i := 8) (v := ?_) rfl (by decide) (by kernel_rfl) (by kernel_rfl) (by kernel_rfl) (fun _ _ _ h => h) (Or.inl ⟨by rfl, ?_⟩) (fun _ => by assumption) ?_
        rotate_left
        ·(intro w hSw; go_simp; try (with_reducible rfl))
        try go_frame
        refine anyM_take0 (i := 9) (v := ?_) rfl (by decide) (by kernel_rfl) (by kernel_rfl) (by kernel_rfl) (fun _ _ _ h => h) (Or.inl ⟨by rfl, ?_⟩) (fun _ => by assumption) ?_
        rotate_left
        ·(intro w hSw; go_simp; try (with_reducible rfl))
        try go_frame
        have hio := HLS.out.io.keep hv
        have hd0 := (HLS.out.keep hv).down
        have hfr := fr_S (sb := sb) (s := s) (b := b) (x := (vx : Int)) (y := (vy : Int)) (u := .int .i64 (vx : Int)) (v := .int .i64 (vy : Int)) (HLS.out.keep hv).bw
        have hj1 := cell_below hv i1
        have hj2 := cell_below hv i2
        clear hHeld hv i1 i2 c0 e1 e2
        generalize wr.drew = V0 at *
        have hS1 := (hio.setInt (vx : Int)).1
        have hne : ∀ q, w.heap.size ≤ q → q ≠ sb := fun q hq => by have := HLS.out.gl; omega
        have hH1 : (V0.setCell ⟨sb, 0, none⟩ (.int .i64 (vx : Int))).cell? ⟨g6, 1, none⟩ = some (.int .i64 vx) ∧ (V0.setCell ⟨sb, 0, none⟩ (.int .i64 (vx : Int))).cell? ⟨g6, 2, none⟩ = some (.int .i64 vy) := ⟨cell_set_other (hne _ HLS.out.gl.1) hj1, cell_set_other (hne _ HLS.out.gl.1) hj2⟩
        have hB1 : Below sb w (V0.setCell ⟨sb, 0, none⟩ (.int .i64 (vx : Int))) := hd0.trans (below_rp (grown_set (grown_self _ sb) 0 (.int .i64 (vx : Int))) (Nat.le_refl _) (by have := (Array.getElem?_eq_some_iff.1 hio.blk).1; omega))
        obtain ⟨q0, q1, q2, q3, q4, q5, q6⟩ := hio.blk.seven
        have qf := hio.blk.free
        refine anyM_ready (rs := [10]) (by kernel_rfl) (by simp) ?_
        refine ReadyM.cons rfl (fun K hK => ?_) ReadyM.nil
        go_simp
        refine hK.out _ _ (fun h => absurd h (by simp)) ?_
        clear hK K
        try go_frame
        clear q0 q1 q2 q3 q4 q5 q6 qf hd0 hj1 hj2 hne hio
        generalize V0.setCell ⟨sb, 0, none⟩ (.int .i64 (vx : Int)) = V1 at *
        have hHeld := hH1
        refine anyM_take0 (i := 11) (v := ?_) rfl (by decide) (by kernel_rfl) (by kernel_rfl) (by kernel_rfl) (fun _ _ _ h => h) (Or.inl ⟨by rfl, ?_⟩) (fun _ => by assumption) ?_
        rotate_left
        ·(intro w hSw; go_simp; try (with_reducible rfl))
        try go_frame
        refine anyM_take0 (i := 12) (v := ?_) rfl (by decide) (by kernel_rfl) (by kernel_rfl) (by kernel_rfl) (fun _ _ _ h => h) (Or.inl ⟨by rfl, ?_⟩) (fun _ => by assumption) ?_
        rotate_left
        ·(intro w hSw; go_simp; try (with_reducible rfl))
        try go_frame
        clear hHeld hH1
        have hS2 := (hS1.setInt (vy : Int)).2
        have hB2 : Below sb w (V1.setCell ⟨sb, 1, none⟩ (.int .i64 (vy : Int))) := hB1.trans (below_rp (grown_set (grown_self _ sb) 1 (.int .i64 (vy : Int))) (Nat.le_refl _) (by have := (Array.getElem?_eq_some_iff.1 hS1.blk).1; omega))
        obtain ⟨q0, q1, q2, q3, q4, q5, q6⟩ := hS1.blk.seven
        have qf := hS1.blk.free
        refine anyM_ready (rs := [13]) (by kernel_rfl) (by simp) ?_
        refine ReadyM.cons rfl (fun K hK => ?_) ReadyM.nil
        go_simp
        refine hK.out _ _ (fun h => absurd h (by simp)) ?_
        clear hK K
        try go_frame
        refine anyM_done (by kernel_rfl) ?_ _
        have HFR := Lib.hid hfr
        have HM1 := Lib.hid hS2
        have HM2 := Lib.hid hB2
        generalize V1.setCell ⟨sb, 1, none⟩ (.int .i64 (vy : Int)) = wz at *
        clear hS2 hB2 hS1 hB1 hfr q0 q1 q2 q3 q4 q5 q6 qf
        go_wp2_with fail
        go_ret
        exact ⟨HM2.out, .inl ⟨.sto vx vy, b, by rw [CE.out]; unfold St.entS; simp [Hx.out, Hy.out], rfl, HM1.out, HFR.out⟩⟩
   ·skip
    have g3 : ((n : Int) == 3) = false := by simp; omega
    have h3 : ¬ (n : Int) = 3 := by omega
    have HRL := Lib.hid hR
    clear hnR hnn hR
    go_wp2_with fail
    go_ret
    exact ⟨HLS.out.down, .inr ⟨by rw [← HLE.out]; exact St.entS_len HRL.out, rfl⟩⟩
end Go.Proofs.YtbbgebpgpadclaaGreatDoor
