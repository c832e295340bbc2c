/- Parts of the proof, no condition: StTno. -/
import Derived.Test.YthdiccdnggloiaaGreatDoorPl25
import Derived.Test.YthdiccdnggloiaaGreatDoorPl26
import Derived.Test.YthdiccdnggloiaaGreatDoorPl11
import Derived.Test.YthdiccdnggloiaaGreatDoorPl29
set_option linter.unusedSimpArgs false
set_option linter.unusedVariables false
namespace Go.Proofs.YthdiccdnggloiaaGreatDoor
open Go.RowKit Go.Sort Go.Shelf Go.Maps

theorem list_app3M {ops : Array Oper} {rest : List Oper} {o : Oper} {a : Act} {V : World} {cs : Array Value} {Q : Exit → Act → World → Prop} (hgd : o.guard = none) (s x : Operand)
  (ho : o.op = .call { callee := .builtin .append, args := #[s, x], argTypes := #[41, 41] }) (base : Nat) (v : Value) (n : Nat) (xs : List Value) (hs : a.eval s = v) (hx : a.eval x = .slice (some ⟨V.heap.size, 0, none⟩) 1 1)
  (hown : V.ownsRow base 52 4 v n xs) (hn : n ≤ 1000000) (hb : base ≤ V.heap.size) (hcs : cs.toList.length = 1 * 4) (h1 : ∀ u ∈ cs.toList, u.oneCell' = true)
  (h : ∀ g cap w', w'.ownsRow base 52 4 (.slice (some ⟨g, 0, none⟩) (n + 1) cap) (n + 1) (xs ++ cs.toList) → (V.alloc (.cells cs 52)).grownBy w' v.ownBlock → NewOr (V.alloc (.cells cs 52)) v.ownBlock g → wpList Tryz.prog ops Q rest (a.put o.dst (.slice (some ⟨g, 0, none⟩) (n + 1) cap)) w') :
  wpList Tryz.prog ops Q (o :: rest) a (V.alloc (.cells cs 52)) := by
 obtain ⟨i0, hi0, hi1, hi2, hi3⟩ := info_parts infoMov
 exact wpList_append_own2 _ hgd s x _ ho base 52 i0 (.agg #[.int .i64 0, .string ByteArray.empty, .string ByteArray.empty, .string ByteArray.empty]) 4 56 Tryz.underlying41 hi0 hi1 hi2 hi3 rfl (by decide) v n xs hs (hown.alloc _) ⟨V.heap.size, 0, none⟩ 1 1 cs.toList hx (by decide) hcs
  (World.news_of_block (cs := cs) (t := 52) (fr := (0, 0)) (Blk.new V cs 52)) h1 (by unfold maxLen; omega) (by omega) (by simp; omega) (fun g cap w' h1 h2 h3 => h g cap w' h1 h2 h3)

theorem list_app3S {ops : Array Oper} {rest : List Oper} {o : Oper} {a : Act} {V : World} {cs : Array Value} {Q : Exit → Act → World → Prop} (hgd : o.guard = none) (s x : Operand)
  (ho : o.op = .call { callee := .builtin .append, args := #[s, x], argTypes := #[25, 25] }) (base : Nat) (v : Value) (n : Nat) (xs : List Value) (hs : a.eval s = v) (hx : a.eval x = .slice (some ⟨V.heap.size, 0, none⟩) 1 1)
  (hown : V.ownsRow base 9 1 v n xs) (hn : n ≤ 1000000) (hb : base ≤ V.heap.size) (hcs : cs.toList.length = 1 * 1) (h1 : ∀ u ∈ cs.toList, u.oneCell' = true)
  (h : ∀ g cap w', w'.ownsRow base 9 1 (.slice (some ⟨g, 0, none⟩) (n + 1) cap) (n + 1) (xs ++ cs.toList) → (V.alloc (.cells cs 9)).grownBy w' v.ownBlock → NewOr (V.alloc (.cells cs 9)) v.ownBlock g → wpList Tryz.prog ops Q rest (a.put o.dst (.slice (some ⟨g, 0, none⟩) (n + 1) cap)) w') :
  wpList Tryz.prog ops Q (o :: rest) a (V.alloc (.cells cs 9)) := by
 obtain ⟨i0, hi0, hi1, hi2, hi3⟩ := info_parts infoStS
 exact wpList_append_own2 _ hgd s x _ ho base 9 i0 (.string ByteArray.empty) 1 16 Tryz.underlying25 hi0 hi1 hi2 hi3 rfl (by decide) v n xs hs (hown.alloc _) ⟨V.heap.size, 0, none⟩ 1 1 cs.toList hx (by decide) hcs
  (World.news_of_block (cs := cs) (t := 9) (fr := (0, 0)) (Blk.new V cs 9)) h1 (by unfold maxLen; omega) (by omega) (by simp; omega) (fun g cap w' h1 h2 h3 => h g cap w' h1 h2 h3)
theorem list_catM {ops : Array Oper} {rest : List Oper} {o : Oper} {a : Act} {V : World} {Q : Exit → Act → World → Prop} (hgd : o.guard = none) (s x : Operand)
  (ho : o.op = .call { callee := .builtin .append, args := #[s, x], argTypes := #[41, 41] }) (base : Nat) (v : Value) (n : Nat) (xs : List Value) (hs : a.eval s = v) (g0 m c : Nat) (base0 : Nat) (ys : List Value) (hx : a.eval x = .slice (some ⟨g0, 0, none⟩) m c) (hm : 0 < m)
  (hL : V.ownsRow base0 52 4 (.slice (some ⟨g0, 0, none⟩) m c) m ys) (hys : ∀ u ∈ ys, u.oneCell' = true)
  (hown : V.ownsRow base 52 4 v n xs) (hn : n + m ≤ 1000000) (hb : base ≤ V.heap.size)
  (h : ∀ g cap w', w'.ownsRow base 52 4 (.slice (some ⟨g, 0, none⟩) (n + m) cap) (n + m) (xs ++ ys) → V.grownBy w' v.ownBlock → NewOr V v.ownBlock g → wpList Tryz.prog ops Q rest (a.put o.dst (.slice (some ⟨g, 0, none⟩) (n + m) cap)) w') :
  wpList Tryz.prog ops Q (o :: rest) a V := by
 obtain ⟨i0, hi0, hi1, hi2, hi3⟩ := info_parts infoMov
 have hlen := hL.1
 refine wpList_append_own2 _ hgd s x _ ho base 52 i0 (.agg #[.int .i64 0, .string ByteArray.empty, .string ByteArray.empty, .string ByteArray.empty]) 4 56 Tryz.underlying41 hi0 hi1 hi2 hi3 rfl (by decide) v n xs hs hown ⟨g0, 0, none⟩ m c ys hx hm
  hlen (fun j u hj => ?_) hys (by unfold maxLen; omega) (by omega) hb h
 rw [show (⟨g0, 0, none⟩ : Addr).add j = ⟨g0, j, none⟩ from by unfold Addr.add; split <;> simp_all]
 rw [(OwnC.of_own hL).cellAt j (by have := (List.getElem?_eq_some_iff.1 hj).1; omega)]
 exact hj
theorem setRow_grown (w : World) (q : Nat) (cs : Array Value) : w.grownBy (w.setRow q cs) (some q) := ⟨rfl, rfl, rfl, by simp, fun k hk hne => setRow_other w q k cs (fun e => hne (by rw [e]))⟩
structure PlrIn (w : World) (B : Nat) (t : Sto) (b : StA) (ms : List Mov) (vm : Value) (O : List ByteArray) (vo : Value) (NL : List ByteArray) (vn : Value) (W : World) : Prop where
 vw : Blk W w.heap.size #[.int .i64 t.least, .int .i64 t.wait, .slice b.ta t.tiers.length b.tc, .slice b.fa t.files.length b.fc, .slice b.ca t.copies.length b.cc, .slice b.ha t.held.length b.hc, .slice b.ba t.bin.length b.bc] 28
 st : (StOwn W B t b ∧ ∀ g, vo.ownBlock = some g → (Value.slice b.ha t.held.length b.hc).ownBlock ≠ some g) ∨ StIn w t b
 mv : W.ownsRow B 52 4 vm ms.length (St.eM.flat ms)
 op : W.ownsRow B 9 1 vo O.length (St.eS.flat O)
 nl : OwnV W B 9 1 vn NL.length (St.eS.flat NL)
 an : ∀ g, vo.ownBlock = some g → vn.ownBlock ≠ some g
 bl : Below w.heap.size w W
 sz : w.heap.size < B ∧ B ≤ W.heap.size
section
variable {w W W' : World} {B : Nat} {t : Sto} {b : StA} {ms : List Mov} {vm : Value} {O : List ByteArray} {vo : Value} {NL : List ByteArray} {vn : Value}
theorem PlrIn.keep (h : PlrIn w B t b ms vm O vo NL vn W) (hb : Below W.heap.size W W') : PlrIn w B t b ms vm O vo NL vn W' :=
 ⟨h.vw.keep hb, h.st.imp (fun g => ⟨g.1.keep hb, g.2⟩) id, own_keepE h.mv hb, own_keepE h.op hb, OwnV.keep h.nl hb, h.an, below_up h.bl hb, h.sz.1, Nat.le_trans h.sz.2 hb.size⟩
theorem PlrIn.mvlt (h : PlrIn w B t b ms vm O vo NL vn W) : ∀ g, vm.ownBlock = some g → g < W.heap.size := fun g hg => (h.mv.lt g hg).2
theorem grown_refl (W : World) (q : Option Nat) : W.grownBy W q := ⟨rfl, rfl, rfl, Nat.le_refl _, fun _ _ _ => rfl⟩
theorem grown_belowQ {W W' : World} (h : Below W.heap.size W W') (q : Option Nat) : W.grownBy W' q := ⟨h.os, h.tape, h.output, h.size, fun j hj _ => h.block j hj⟩
theorem PlrIn.in_ (h : PlrIn w B t b ms vm O vo NL vn W) (r : St.Right t) : StIn W t b := by
 rcases h.st with g | g
 ·exact g.1.in_ (StSz.right r)
 ·exact g.keep h.bl
theorem PlrIn.box {t' : Sto} {b' : StA} (h : PlrIn w B t b ms vm O vo NL vn W) (hb : Below W.heap.size W W') (ho : StOwn W' W.heap.size t' b') : PlrIn w B t' b' ms vm O vo NL vn (W'.setRow w.heap.size #[.int .i64 t'.least, .int .i64 t'.wait, .slice b'.ta t'.tiers.length b'.tc, .slice b'.fa t'.files.length b'.fc, .slice b'.ca t'.copies.length b'.cc, .slice b'.ha t'.held.length b'.hc, .slice b'.ba t'.bin.length b'.bc]) := by
 have hk := h.keep hb
 have hl := h.sz
 have hg := setRow_grown W' w.heap.size #[.int .i64 t'.least, .int .i64 t'.wait, .slice b'.ta t'.tiers.length b'.tc, .slice b'.fa t'.files.length b'.fc, .slice b'.ca t'.copies.length b'.cc, .slice b'.ha t'.held.length b'.hc, .slice b'.ba t'.bin.length b'.bc]
 have hne : ∀ {k n : Nat} {e : TypeId} {v : Value} {xs : List Value}, W'.ownsRow B e k v n xs → v.ownBlock = none ∨ v.ownBlock ≠ some w.heap.size := fun h1 => .inr fun e => by have := (h1.lt _ e).1; omega
 exact ⟨Blk.setRowAt hk.vw _, .inl ⟨(ho.down hl.2).setRow hl.1 _, fun g hv e => by
   have h1 := (h.op.lt g hv).2
   have h2 := (ho.he.lt g e).1
   omega⟩, hk.mv.kept hg (hne hk.mv), hk.op.kept hg (hne hk.op), hk.nl.setRow hl.1 _,
  hk.an, below_setRow hk.bl (Nat.le_refl _) _, hl.1, by simp; exact hk.sz.2⟩
theorem PlrIn.other {B2 m : Nat} {u : Value} {ys : List Value} (h : PlrIn w B t b ms vm O vo NL vn W) (ho : W.ownsRow B2 52 4 u m ys) (hB : B ≤ B2) (hne : ∀ g, vm.ownBlock = some g → u.ownBlock ≠ some g) (hg : W.grownBy W' u.ownBlock) : PlrIn w B t b ms vm O vo NL vn W' := by
 have hl := h.sz
 refine ⟨h.vw.farOwn ho (by decide) hg, h.st.imp (fun g => ⟨g.1.farOwn ho hg, g.2⟩) id, h.mv.kept hg ?_, h.op.kept hg ?_, h.nl.farOwn ho (by decide) hg, h.an, ?_, hl.1, Nat.le_trans hl.2 hg.size⟩
 ·cases e : vm.ownBlock with
  | none => exact .inl rfl
  | some g => exact .inr fun e2 => hne g e e2.symm
 ·cases e : vo.ownBlock with
  | none => exact .inl rfl
  | some g =>
    right
    intro e2
    obtain ⟨c, hc⟩ := own_block h.op e
    exact own_ne ho hc (by decide) e2.symm
 ·refine h.bl.trans ⟨hg.os, hg.tape, hg.output, hg.size, fun j hj => hg.block j (by omega) fun e2 => ?_⟩
  have := (ho.lt j e2.symm).1
  omega
theorem PlrIn.more {ms' : List Mov} {vm' : Value} (h : PlrIn w B t b ms vm O vo NL vn W) (hg : W.grownBy W' vm.ownBlock) (hn : W'.ownsRow B 52 4 vm' ms'.length (St.eM.flat ms')) : PlrIn w B t b ms' vm' O vo NL vn W' := by
 have hl := h.sz
 have ho := h.mv
 refine ⟨h.vw.farOwn ho (by decide) hg, h.st.imp (fun g => ⟨g.1.farOwn ho hg, g.2⟩) id, hn, h.op.kept hg ?_, h.nl.farOwn ho (by decide) hg, h.an, ?_, hl.1, Nat.le_trans hl.2 hg.size⟩
 ·cases e : vo.ownBlock with
  | none => exact .inl rfl
  | some g =>
    right
    intro e2
    obtain ⟨c, hc⟩ := own_block h.op e
    exact own_ne ho hc (by decide) e2.symm
 ·refine h.bl.trans ⟨hg.os, hg.tape, hg.output, hg.size, fun j hj => hg.block j (by omega) fun e2 => ?_⟩
  have := (ho.lt j e2.symm).1
  omega
theorem PlrIn.stop {O' : List ByteArray} {g' c' n' : Nat} (h : PlrIn w B t b ms vm O vo NL vn W) (hg : W.grownBy W' vo.ownBlock) (hn : W'.ownsRow B 9 1 (.slice (some ⟨g', 0, none⟩) n' c') O'.length (St.eS.flat O')) (hnew : NewOr W vo.ownBlock g') : PlrIn w B t b ms vm O' (.slice (some ⟨g', 0, none⟩) n' c') NL vn W' := by
 have hl := h.sz
 have ho := h.op
 have hf : ∀ {B k n : Nat} {e : TypeId} {v : Value} {xs : List Value}, OwnV W B e k v n xs → e ≠ 9 → OwnV W' B e k v n xs := fun h1 hne => h1.farOwn ho hne hg
 refine ⟨h.vw.farOwn ho (by decide) hg, h.st.imp (fun k => ⟨⟨hf k.1.ti (by decide), hf k.1.fi (by decide), hf k.1.co (by decide), k.1.he.apart hg fun g hv e => k.2 g e.symm hv, hf k.1.bi (by decide)⟩, fun g hv e => by
   obtain rfl : g' = g := Option.some.inj hv
   rcases hnew with h1 | h1
   ·exact k.2 _ h1 e
   ·have := (k.1.he.lt _ e).2
    omega⟩) id, h.mv.kept hg ?_, hn, h.nl.apart hg fun g hv e => h.an g e.symm hv, ?_, ?_, hl.1, Nat.le_trans hl.2 hg.size⟩
 ·cases e : vm.ownBlock with
  | none => exact .inl rfl
  | some g =>
    right
    intro e2
    obtain ⟨c, hc⟩ := own_block h.mv e
    exact own_ne ho hc (by decide) e2.symm
 ·intro g hv e
  obtain rfl : g' = g := Option.some.inj hv
  rcases hnew with h1 | h1
  ·exact h.an _ h1 e
  ·have := (h.nl.lt _ e).2
   omega
 ·refine h.bl.trans ⟨hg.os, hg.tape, hg.output, hg.size, fun j hj => hg.block j (by omega) fun e2 => ?_⟩
  have := (ho.lt j e2.symm).1
  omega
end
end Go.Proofs.YthdiccdnggloiaaGreatDoor
