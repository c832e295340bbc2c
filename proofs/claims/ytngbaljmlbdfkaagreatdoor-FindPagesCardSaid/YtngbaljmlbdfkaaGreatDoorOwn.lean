/- Append to a slice of the call's own, with the block that the new slice lies in: the old one, or a new one. -/
import Derived.Test.YtngbaljmlbdfkaaGreatDoorKit
import Derived.Maps.AppendAt
namespace Go.Proofs.YtngbaljmlbdfkaaGreatDoor
open Go.RowKit
theorem ownsRow_down {w : World} {base base' : Nat} {e : TypeId} {size : Nat} {v : Value} {n : Nat} {xs : List Value} (h : w.ownsRow base e size v n xs) (hb : base' ≤ base) : w.ownsRow base' e size v n xs := by
  refine ⟨h.1, ?_⟩
  rcases h.2 with hn | ⟨g, cap, cur, rfl, hg, rest⟩
  · exact .inl hn
  · exact .inr ⟨g, cap, cur, rfl, Nat.le_trans hb hg, rest⟩
/-- The block of a slice that is not nil: b for the old one or any new one. -/
def NewOr (w : World) (old : Option Nat) (g : Nat) : Prop := old = some g ∨ w.heap.size ≤ g
theorem wpList_append_own2 {P : Program} (w : World) {ops : Array Oper} {rest : List Oper} {o : Oper} {a : Act} {Q : Exit → Act → World → Prop} (hgd : o.guard = none) (s x : Operand) (t : TypeId)
    (ho : o.op = .call { callee := .builtin .append, args := #[s, x], argTypes := #[t, t] })
    (base : Nat) (e : TypeId) (i : TypeInfo) (z : Value) (size bytes : Nat) (ht : P.underlying t = some (.slice e)) (hi : P.info? e = some i) (hz : i.zero = some z)
    (hsize : i.size = size) (hby : i.bytes = bytes) (hzs : z.cells.size = size) (hsz : 0 < size)
    (v : Value) (n : Nat) (xs : List Value) (hs : a.eval s = v) (hown : w.ownsRow base e size v n xs)
    (ad : Addr) (m c : Nat) (news : List Value) (hx : a.eval x = .slice (some ad) m c) (hm : 0 < m) (hl : news.length = m * size) (hnews : ∀ j u, news[j]? = some u → w.cell? (ad.add j) = some u) (h1 : ∀ u ∈ news, u.oneCell' = true)
    (h63 : n + m ≤ maxLen) (hbytes : (n + m) * bytes ≤ 140737488355328) (hbase : base ≤ w.heap.size)
    (h : ∀ g cap w', w'.ownsRow base e size (.slice (some ⟨g, 0, none⟩) (n + m) cap) (n + m) (xs ++ news) → w.grownBy w' v.ownBlock → NewOr w v.ownBlock g → wpList P ops Q rest (a.put o.dst (.slice (some ⟨g, 0, none⟩) (n + m) cap)) w') : wpList P ops Q (o :: rest) a w := by
  have shape : ∀ v' w', w'.ownsRow w.heap.size e size v' (n + m) (xs ++ news) → w.grownBy w' none → wpList P ops Q rest (a.put o.dst v') w' := by
    intro v' w' hown' hg
    rcases hown'.2 with ⟨_, h0⟩ | ⟨g, cap, cur, rfl, hgb, _⟩
    · omega
    · exact h g cap w' (ownsRow_down hown' hbase) ⟨hg.os, hg.tape, hg.output, hg.size, fun k hk _ => hg.block k hk (by simp)⟩ (.inr hgb)
  have hlen := hown.1
  rcases hown.2 with ⟨rfl, rfl⟩ | ⟨g, cap, cur, rfl, hbg, hg, hnc, hcm, hcs, htake⟩
  · refine wpList_append_grows w hgd s x t ho e i z size bytes ht hi hz hsize hby hzs hsz none 0 0 xs hs (fun _ => ⟨rfl, rfl⟩) hlen (fun b hb => by cases hb) ad m c news hx hl hnews h1 (by omega) h63 hbytes shape
  · by_cases hroom : n + m ≤ cap
    · refine wpList_append_fits w hgd s x t ho base e i size ht hi hsize g n cap xs hs hown ad m c news hx hl hnews h1 hroom fun w' hown' hgr => ?_
      exact h g cap w' hown' hgr (.inl rfl)
    · exact wpList_append_grows w hgd s x t ho e i z size bytes ht hi hz hsize hby hzs hsz (some ⟨g, 0, none⟩) n cap xs hs (fun hh => by cases hh) hlen (fun b hb => by cases hb; exact hown.cells (g := g) rfl) ad m c news hx hl hnews h1 (by omega) h63 hbytes shape
/-- A literal's new block as an owned row. -/
theorem ownsRow_new (w : World) (base : Nat) (e : TypeId) (c : Array Value) (hb : base ≤ w.heap.size) (hm : c.size ≤ maxLen) :
    (w.alloc (.cells c e)).ownsRow base e 1 (.slice (some ⟨w.heap.size, 0, none⟩) c.size c.size) c.size c.toList :=
  ⟨by simp, .inr ⟨w.heap.size, c.size, c, rfl, hb, heap_alloc_new w _, Nat.le_refl _, hm, by simp, by rw [Nat.mul_one, ← Array.length_toList, List.take_length]⟩⟩
/-- A block beside what is written. -/
theorem Blk.beside {w w' : World} {b : Nat} {c : Array Value} {t : TypeId} {old : Option Nat} (h : Blk w b c t) (hg : w.grownBy w' old) (hne : old ≠ some b) : Blk w' b c t :=
  h.grown hg (fun e => hne e.symm)
theorem NewOr.ne {w : World} {old : Option Nat} {g b : Nat} (h : NewOr w old g) (hb : b < w.heap.size) (hne : old ≠ some b) : g ≠ b := by
  rcases h with h | h
  · intro e; subst e; exact hne h
  · omega
end Go.Proofs.YtngbaljmlbdfkaaGreatDoor
