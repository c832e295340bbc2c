/- Parts of the proof, no condition: StTnb. -/
import Derived.Test.YthdiccdnggloiaaGreatDoorPl14
import Derived.Test.YthdiccdnggloiaaGreatDoorPl20
import Derived.Test.YthdiccdnggloiaaGreatDoorPl16
import Derived.Lib.OwnKind
import Derived.Maps.RangeWalk
set_option maxRecDepth 100000
set_option maxHeartbeats 16000000
set_option linter.unusedSimpArgs false
set_option linter.unusedVariables false
namespace Go.Proofs.YthdiccdnggloiaaGreatDoor
open Go.RowKit Go.Sort Go.Shelf Go.Maps
structure PlFar (w w' : World) (pb : Nat) (v : Value) : Prop where
 os : w'.os = w.os
 tape : w'.tape = w.tape
 output : w'.output = w.output
 size : w.heap.size ≤ w'.heap.size
 block : ∀ q, q < w.heap.size → q ≠ pb → v.ownBlock ≠ some q → w'.heap[q]? = w.heap[q]?
theorem step_appM2 {ops : Array Oper} {o : Oper} {a : Act} {V : World} {cs : Array Value} {K : Act → World → Prop} {Q : Exit → Act → World → Prop} {E : Prop} (hgd : o.guard = none) (s x : Operand)
  (ho : o.op = .call { callee := .builtin .append, args := #[s, x], argTypes := #[41, 41] }) (base : Nat) (v : Value) (n : Nat) (xs : List Value) (hs : a.eval s = v) (hx : a.eval x = .slice (some ⟨V.heap.size, 0, none⟩) 1 1)
  (hown : V.ownsRow base 52 4 v n xs) (hn : n ≤ 1000000) (hb : base ≤ V.heap.size) (hcs : cs.toList.length = 1 * 4) (h1 : ∀ u ∈ cs.toList, u.oneCell' = true)
  (h : ∀ g cap w', w'.ownsRow base 52 4 (.slice (some ⟨g, 0, none⟩) (n + 1) cap) (n + 1) (xs ++ cs.toList) → (V.alloc (.cells cs 52)).grownBy w' v.ownBlock → (v.ownBlock = some g ∨ g = V.heap.size + 1) → K (a.put o.dst (.slice (some ⟨g, 0, none⟩) (n + 1) cap)) w') :
  if Region.wanted o (yielded ops a.tmps) = true then Oper.wp Tryz.prog o a (V.alloc (.cells cs 52)) K Q else E := by
 obtain ⟨i0, hi0, hi1, hi2, hi3⟩ := info_parts infoMov
 exact step_append_lies _ hgd s x _ ho base 52 i0 (.agg #[.int .i64 0, .string ByteArray.empty, .string ByteArray.empty, .string ByteArray.empty]) 4 56 Tryz.underlying41 hi0 hi1 hi2 hi3 rfl (by decide) v n xs hs (hown.alloc _) ⟨V.heap.size, 0, none⟩ 1 1 cs.toList hx hcs
  (World.news_of_block (cs := cs) (t := 52) (fr := (0, 0)) (Blk.new V cs 52)) h1 (by decide) (by unfold maxLen; omega) (by omega) (by simp; omega) _ rfl (fun g cap w' h1 h2 h3 _ => h g cap w' h1 h2 (by simpa using h3))
theorem Blk.nine {w : World} {b : Nat} {t : TypeId} {x0 x1 x2 x3 x4 x5 x6 x7 x8 : Value} (h : Blk w b #[x0, x1, x2, x3, x4, x5, x6, x7, x8] t) : (w.cell? ⟨b, 0, none⟩ = some x0 ∧ w.cell? ⟨b, 1, none⟩ = some x1 ∧ w.cell? ⟨b, 2, none⟩ = some x2 ∧ w.cell? ⟨b, 3, none⟩ = some x3 ∧ w.cell? ⟨b, 4, none⟩ = some x4 ∧ w.cell? ⟨b, 5, none⟩ = some x5 ∧ w.cell? ⟨b, 6, none⟩ = some x6 ∧ w.cell? ⟨b, 7, none⟩ = some x7) ∧ w.cell? ⟨b, 8, none⟩ = some x8 :=
 ⟨⟨by rw [h.cell]; rfl, by rw [h.cell]; rfl, by rw [h.cell]; rfl, by rw [h.cell]; rfl, by rw [h.cell]; rfl, by rw [h.cell]; rfl, by rw [h.cell]; rfl, by rw [h.cell]; rfl⟩, by rw [h.cell]; rfl⟩
theorem StOwn.farG {w w' : World} {B q : Nat} {s : Sto} {a : StA} {c : Array Value} {t : TypeId} (h : StOwn w B s a) (hb : Blk w q c t) (h1 : 46 ≠ t) (h2 : 30 ≠ t) (h3 : 74 ≠ t) (h4 : 9 ≠ t) (h5 : 112 ≠ t) (hg : w.grownBy w' (some q)) : StOwn w' B s a :=
 ⟨h.ti.far hb h1 hg, h.fi.far hb h2 hg, h.co.far hb h3 hg, h.he.far hb h4 hg, h.bi.far hb h5 hg⟩
theorem StOwn.copNew2 {V : World} {B : Nat} {s : Sto} {b : StA} (h : StOwn V B s b) {CS : List Cop} {ga : Option Addr} {gc : Nat} (o : OwnV V B 74 4 (.slice ga CS.length gc) CS.length (St.eC.flat CS)) : StOwn V B { s with copies := CS } ⟨b.ta, b.tc, b.fa, b.fc, ga, gc, b.ha, b.hc, b.ba, b.bc⟩ := ⟨h.ti, h.fi, o, h.he, h.bi⟩
theorem own_ne {w : World} {B k n q : Nat} {e t : TypeId} {v : Value} {xs : List Value} {c : Array Value} (h : w.ownsRow B e k v n xs) (hb : Blk w q c t) (hne : e ≠ t) : v.ownBlock ≠ some q := by
 intro hv
 obtain ⟨c0, fz, h0⟩ := Lib.ownsRow_kind h q hv
 have hb' : w.heap[q]? = some (.cells c t (0, 0)) := hb
 rw [hb'] at h0
 cases h0
 exact hne rfl
theorem own_farG {w w' : World} {B k n q : Nat} {e t : TypeId} {v : Value} {xs : List Value} {c : Array Value} (h : w.ownsRow B e k v n xs) (hb : Blk w q c t) (hne : e ≠ t) (hg : w.grownBy w' (some q)) : w'.ownsRow B e k v n xs := h.kept hg (.inr (own_ne h hb hne))
theorem own_block {w : World} {B k n g : Nat} {e : TypeId} {v : Value} {xs : List Value} (h : w.ownsRow B e k v n xs) (hv : v.ownBlock = some g) : ∃ c, Blk w g c e := by
 rcases h.2 with ⟨rfl, _⟩ | ⟨g', cap, cur, rfl, _, hc, _⟩
 ·cases hv
 ·obtain rfl : g' = g := Option.some.inj hv
  exact ⟨cur, hc⟩
theorem OwnV.farOwn {w w' : World} {B B' k n k' m : Nat} {e e' : TypeId} {v u : Value} {xs ys : List Value} (h : OwnV w B e k v n xs) (ho : w.ownsRow B' e' k' u m ys) (hne : e ≠ e') (hg : w.grownBy w' u.ownBlock) : OwnV w' B e k v n xs := by
 cases hu : u.ownBlock with
 | none =>
   rw [hu] at hg
   exact h.keep ⟨hg.os, hg.tape, hg.output, hg.size, fun j hj => hg.block j hj (by simp)⟩
 | some g =>
   obtain ⟨c, hc⟩ := own_block ho hu
   rw [hu] at hg
   exact h.far hc hne hg
theorem StOwn.farOwn {w w' : World} {B B' k' m : Nat} {s : Sto} {a : StA} {u : Value} {ys : List Value} (h : StOwn w B s a) (ho : w.ownsRow B' 52 k' u m ys) (hg : w.grownBy w' u.ownBlock) : StOwn w' B s a :=
 ⟨h.ti.farOwn ho (by decide) hg, h.fi.farOwn ho (by decide) hg, h.co.farOwn ho (by decide) hg, h.he.farOwn ho (by decide) hg, h.bi.farOwn ho (by decide) hg⟩
theorem Blk.farOwn {w w' : World} {B' k' m q : Nat} {e' t : TypeId} {u : Value} {ys : List Value} {c : Array Value} (h : Blk w q c t) (ho : w.ownsRow B' e' k' u m ys) (hne : e' ≠ t) (hg : w.grownBy w' u.ownBlock) : Blk w' q c t :=
 h.of_block (hg.block q (Array.getElem?_eq_some_iff.1 h).1 (fun e => own_ne ho h hne e.symm))
def DidPost (w : World) (pb B mb : Nat) (b : StA) (t : Sto) (ms : List Mov) (v : Value) (e : Ending) (w' : World) : Prop := e = .returned (.tuple #[]) ∧ ∃ (b' : StA) (v' : Value), Blk w' pb #[.int .i64 t.least, .int .i64 t.wait, .slice b'.ta t.tiers.length b'.tc, .slice b'.fa t.files.length b'.fc, .slice b'.ca t.copies.length b'.cc, .slice b'.ha t.held.length b'.hc, .slice b'.ba t.bin.length b'.bc, .map (some mb), v'] 161 ∧ StOwn w' B t b' ∧ w'.ownsRow B 52 4 v' ms.length (St.eM.flat ms) ∧ (∀ g, v'.ownBlock = some g → v.ownBlock = some g ∨ w.heap.size ≤ g) ∧ PlFar w w' pb v ∧ b'.ha = b.ha ∧ b'.hc = b.hc
theorem do_gen (t t' : Sto) (b : StA) (mb pb B : Nat) (m : Mov) (ms : List Mov) (v : Value) (w : World) (hP : Blk w pb #[.int .i64 t.least, .int .i64 t.wait, .slice b.ta t.tiers.length b.tc, .slice b.fa t.files.length b.fc, .slice b.ca t.copies.length b.cc, .slice b.ha t.held.length b.hc, .slice b.ba t.bin.length b.bc, .map (some mb), v] 161) (hO : StOwn w B t b) (hR : w.ownsRow B 52 4 v ms.length (St.eM.flat ms)) (hn : ms.length ≤ 900000) (hB : B ≤ w.heap.size)
  (hs : ∃ CS, t' = { t with copies := CS }) (hM : ∀ V, Below w.heap.size w V → Calls Tryz.prog 125 #[.agg #[.int .i64 t.least, .int .i64 t.wait, .slice b.ta t.tiers.length b.tc, .slice b.fa t.files.length b.fc, .slice b.ca t.copies.length b.cc, .slice b.ha t.held.length b.hc, .slice b.ba t.bin.length b.bc, .map (some mb)], .agg #[.int .i64 m.kind, .string m.dig, .string m.frm, .string m.dst]] V (MadePost V t' b mb)) :
  Calls Tryz.prog 121 #[.pointer (some ⟨pb, 0, none⟩), .agg #[.int .i64 m.kind, .string m.dig, .string m.frm, .string m.dst]] w (DidPost w pb B mb b t' (ms ++ [m]) v) := by
 obtain ⟨CS, rfl⟩ := hs
 obtain ⟨W1, hW1, hX, hz1, hB1⟩ := box w #[.int .i64 m.kind, .string m.dig, .string m.frm, .string m.dst] 52
 have hpl := (Array.getElem?_eq_some_iff.1 hP).1
 have hP := hP.keep hB1
 have HW1 := Lib.hid hW1
 have HPX : Hid (∀ V, Below W1.heap.size W1 V → Blk V pb #[.int .i64 t.least, .int .i64 t.wait, .slice b.ta t.tiers.length b.tc, .slice b.fa t.files.length b.fc, .slice b.ca t.copies.length b.cc, .slice b.ha t.held.length b.hc, .slice b.ba t.bin.length b.bc, .map (some mb), v] 161 ∧ Blk V w.heap.size #[.int .i64 m.kind, .string m.dig, .string m.frm, .string m.dst] 52) := Lib.hid fun V hv => ⟨hP.keep hv, hX.keep hv⟩
 have HMD := Lib.hid (fun V (hv : Below W1.heap.size W1 V) => hM V (below_up hB1 hv))
 unfold MadePost at HMD
 have HB1 := Lib.hid hB1
 have HO1 := Lib.hid (hO.keep hB1)
 have HR1 := Lib.hid (own_keepE hR hB1)
 have HSZ : Hid (W1.heap.size = w.heap.size + 1 ∧ pb < w.heap.size ∧ B ≤ w.heap.size) := Lib.hid ⟨hz1, hpl, hB⟩
 have HNB : Hid (∀ g, v.ownBlock = some g → g < w.heap.size ∧ g ≠ pb) := Lib.hid fun g hg => ⟨(hR.lt g hg).2, fun e => own_ne (hR) (t := 161) (by assumption) (by decide) (by rw [hg, e])⟩
 have hl1 := hn
 have hv : Below W1.heap.size W1 W1.drew := (Below.refl _ _).drew
 clear hW1 hX hz1 hB1 hO hR hM hP hpl hB
 go_enter Tryz.func121, Tryz.ntmps121
 go_upto_region 1 with fail
 rw [HW1.out]
 have hHeld := And.intro (HPX.out _ hv).1.nine (HPX.out _ hv).2.four
 refine wp_region_until (fun W => ((W.cell? ⟨pb, 0, none⟩ = some (.int .i64 t.least) ∧ W.cell? ⟨pb, 1, none⟩ = some (.int .i64 t.wait) ∧ W.cell? ⟨pb, 2, none⟩ = some (.slice b.ta t.tiers.length b.tc) ∧ W.cell? ⟨pb, 3, none⟩ = some (.slice b.fa t.files.length b.fc) ∧ W.cell? ⟨pb, 4, none⟩ = some (.slice b.ca t.copies.length b.cc) ∧ W.cell? ⟨pb, 5, none⟩ = some (.slice b.ha t.held.length b.hc) ∧ W.cell? ⟨pb, 6, none⟩ = some (.slice b.ba t.bin.length b.bc) ∧ W.cell? ⟨pb, 7, none⟩ = some (.map (some mb))) ∧ W.cell? ⟨pb, 8, none⟩ = some v) ∧ W.cell? ⟨w.heap.size, 0, none⟩ = some (.int .i64 m.kind) ∧ W.cell? ⟨w.heap.size, 1, none⟩ = some (.string m.dig) ∧ W.cell? ⟨w.heap.size, 2, none⟩ = some (.string m.frm) ∧ W.cell? ⟨w.heap.size, 3, none⟩ = some (.string m.dst)) 9 (by kernel_rfl) ?_
 refine anyM_take0 (i := 0) (v := ?_) rfl (by decide) (by kernel_rfl) (by kernel_rfl) (by kernel_rfl) (fun _ _ _ h => h) (Or.inl ⟨by rfl, ?_⟩) (fun _ => by assumption) ?_
 rotate_left
 ·(intro w hSw; go_simp; try (with_reducible rfl))
 try go_frame
 refine anyM_take0 (i := 1) (v := ?_) rfl (by decide) (by kernel_rfl) (by kernel_rfl) (by kernel_rfl) (fun _ _ _ h => h) (Or.inl ⟨by rfl, ?_⟩) (fun _ => by assumption) ?_
 rotate_left
 ·(intro w hSw; go_simp; try (with_reducible rfl))
 try go_frame
 refine anyM_take0 (i := 2) (v := ?_) rfl (by decide) (by kernel_rfl) (by kernel_rfl) (by kernel_rfl) (fun _ _ _ h => h) (Or.inl ⟨by rfl, ?_⟩) (fun _ => by assumption) ?_
 rotate_left
 ·(intro w hSw; go_simp; try (with_reducible rfl))
 try go_frame
 refine anyM_take0 (i := 3) (v := ?_) rfl (by decide) (by kernel_rfl) (by kernel_rfl) (by kernel_rfl) (fun _ _ _ h => h) (Or.inl ⟨by rfl, ?_⟩) (fun _ => by assumption) ?_
 rotate_left
 ·(intro w hSw; go_simp; try (with_reducible rfl))
 try go_frame
 refine anyM_take (i := 4) (v := ?_) rfl rfl (by kernel_rfl) (by decide) (by kernel_rfl) (by kernel_rfl) (by kernel_rfl) (fun _ _ _ h => h) (Or.inl ⟨by rfl, ?_⟩) (by rfl) (by assumption) ?_
 rotate_left
 ·(intro w hSw; (try dsimp only at hSw); (try obtain ⟨⟨⟨hs1, hs2, hs3, hs4, hs5, hs6, hs7, hs8⟩, hs9⟩, hs10, hs11, hs12, hs13⟩ := hSw); go_simp; try (with_reducible rfl))
 try go_frame
 refine anyM_take (i := 5) (v := ?_) rfl rfl (by kernel_rfl) (by decide) (by kernel_rfl) (by kernel_rfl) (by kernel_rfl) (fun _ _ _ h => h) (Or.inl ⟨by rfl, ?_⟩) (by rfl) (by assumption) ?_
 rotate_left
 ·(intro w hSw; (try dsimp only at hSw); (try obtain ⟨⟨⟨hs1, hs2, hs3, hs4, hs5, hs6, hs7, hs8⟩, hs9⟩, hs10, hs11, hs12, hs13⟩ := hSw); go_simp; try (with_reducible rfl))
 try go_frame
 refine anyM_ready (rs := [6]) (by kernel_rfl) (by simp) ?_
 refine ReadyM.cons rfl (fun K hK => ?_) ReadyM.nil
 go_simp
 refine (HMD.out _ hv).mono ?_
 rintro e w9 ⟨g, cc, rfl, hog, hq⟩
 have hsv := hv.size
 have hv := below_up hv hq
 have hHeld := And.intro (HPX.out _ hv).1.nine (HPX.out _ hv).2.four
 refine hK.out _ _ (fun _ => hHeld) ?_
 clear hK K
 try go_frame
 refine anyM_take0 (i := 7) (v := ?_) rfl (by decide) (by kernel_rfl) (by kernel_rfl) (by kernel_rfl) (fun _ _ _ h => h) (Or.inl ⟨by rfl, ?_⟩) (fun _ => by assumption) ?_
 rotate_left
 ·(intro w hSw; go_simp; try (with_reducible rfl))
 try go_frame
 refine anyM_take0 (i := 8) (v := ?_) rfl (by decide) (by kernel_rfl) (by kernel_rfl) (by kernel_rfl) (fun _ _ _ h => h) (Or.inl ⟨by rfl, ?_⟩) (fun _ => by assumption) ?_
 rotate_left
 ·(intro w hSw; go_simp; try (with_reducible rfl))
 try go_frame
 clear hHeld
 obtain ⟨⟨⟨p0, p1, p2, p3, p4, p5, p6, p7⟩, p8⟩, pm⟩ := And.intro (HPX.out _ hv).1.nine (HPX.out _ hv).2.four
 have pf := (HPX.out _ hv).1.free
 refine anyM_ready (rs := [9]) (by kernel_rfl) (by simp) ?_
 refine ReadyM.cons rfl (fun K hK => ?_) ReadyM.nil
 go_simp
 refine hK.out _ _ (fun h => absurd h (by simp)) ?_
 clear hK K
 try go_frame
 refine anyM_done (by kernel_rfl) ?_ _
 have hG := (grown_set (grown_set (grown_set (grown_set (grown_set (grown_set (grown_set (grown_set (grown_self w9 pb) 0 (.int .i64 t.least)) 1 (.int .i64 t.wait)) 2 (.slice b.ta t.tiers.length b.tc)) 3 (.slice b.fa t.files.length b.fc)) 4 (.slice g CS.length cc)) 5 (.slice b.ha t.held.length b.hc)) 6 (.slice b.ba t.bin.length b.bc)) 7 (.map (some mb)))
 have hPb := (HPX.out _ hv).1
 have hP8 := ((((((((hPb.set 0 (.int .i64 t.least)).set 1 (.int .i64 t.wait)).set 2 (.slice b.ta t.tiers.length b.tc)).set 3 (.slice b.fa t.files.length b.fc)).set 4 (.slice g CS.length cc)).set 5 (.slice b.ha t.held.length b.hc)).set 6 (.slice b.ba t.bin.length b.bc)).set 7 (.map (some mb)))
 obtain ⟨X, hX⟩ : ∃ X, ((((((((w9.setCell ⟨pb, 0, none⟩ (.int .i64 t.least)).setCell ⟨pb, 1, none⟩ (.int .i64 t.wait)).setCell ⟨pb, 2, none⟩ (.slice b.ta t.tiers.length b.tc)).setCell ⟨pb, 3, none⟩ (.slice b.fa t.files.length b.fc)).setCell ⟨pb, 4, none⟩ (.slice g CS.length cc)).setCell ⟨pb, 5, none⟩ (.slice b.ha t.held.length b.hc)).setCell ⟨pb, 6, none⟩ (.slice b.ba t.bin.length b.bc)).setCell ⟨pb, 7, none⟩ (.map (some mb))) = X := ⟨_, rfl⟩
 rw [hX] at hG hP8 ⊢
 have hs1 := HSZ.out
 have hPd : Blk X pb #[.int .i64 t.least, .int .i64 t.wait, .slice b.ta t.tiers.length b.tc, .slice b.fa t.files.length b.fc, .slice g CS.length cc, .slice b.ha t.held.length b.hc, .slice b.ba t.bin.length b.bc, .map (some mb), v] 161 := hP8
 have hsz9 := hv.size
 have hXm : Blk X w.heap.size #[.int .i64 m.kind, .string m.dig, .string m.frm, .string m.dst] 52 := (HPX.out _ hv).2.of_block (hG.block _ (by omega) (by intro e; have e2 := Option.some.inj e; omega))
 have hO9 : StOwn w9 B { t with copies := CS } ⟨b.ta, b.tc, b.fa, b.fc, g, cc, b.ha, b.hc, b.ba, b.bc⟩ := (HO1.out.keep hv).copNew2 (hog.down (by omega))
 have hOX := hO9.farG hPb (by decide) (by decide) (by decide) (by decide) (by decide) hG
 have hRX := own_farG (own_keepE HR1.out hv) hPb (by decide) hG
 have hFX : ∀ q, q < w.heap.size → q ≠ pb → X.heap[q]? = w.heap[q]? := fun q hq hne => (hG.block q (by omega) (by intro e; exact hne (Option.some.inj e))).trans ((hv.block q (by omega)).trans (HB1.out.block q hq))
 have hEX : X.os = w.os ∧ X.tape = w.tape ∧ X.output = w.output := ⟨hG.os.trans (hv.os.trans HB1.out.os), hG.tape.trans (hv.tape.trans HB1.out.tape), hG.output.trans (hv.output.trans HB1.out.output)⟩
 have hZX : w.heap.size + 1 ≤ X.heap.size := by have := hG.size; omega
 have HOX := Lib.hid hOX; have HRX := Lib.hid hRX; have HFX := Lib.hid hFX; have HEX := Lib.hid hEX; have HZX := Lib.hid hZX; have HPD := Lib.hid hPd; have HXM := Lib.hid hXm
 clear hX hG hPb hP8 hO9 hOX hRX hFX hEX hZX hog hq hv p0 p1 p2 p3 p4 p5 p6 p7 p8 pm pf hsz9 hsv hs1
 have p8 := hPd.nine.2
 obtain ⟨m0, m1, m2, m3⟩ := hXm.four
 clear hPd hXm
 have hHeld : X.drew.cell? ⟨pb, 8, none⟩ = some v ∧ (fun W : World => W.cell? ⟨w.heap.size, 0, none⟩ = some (.int .i64 m.kind) ∧ W.cell? ⟨w.heap.size, 1, none⟩ = some (.string m.dig) ∧ W.cell? ⟨w.heap.size, 2, none⟩ = some (.string m.frm) ∧ W.cell? ⟨w.heap.size, 3, none⟩ = some (.string m.dst)) X.drew := ⟨p8, m0, m1, m2, m3⟩
 go_upto_region 2 with fail
 refine wp_region_until (fun W => W.cell? ⟨pb, 8, none⟩ = some v ∧ W.cell? ⟨w.heap.size, 0, none⟩ = some (.int .i64 m.kind) ∧ W.cell? ⟨w.heap.size, 1, none⟩ = some (.string m.dig) ∧ W.cell? ⟨w.heap.size, 2, none⟩ = some (.string m.frm) ∧ W.cell? ⟨w.heap.size, 3, none⟩ = some (.string m.dst)) 10 (by kernel_rfl) ?_
 refine anyM_take0 (i := 0) (v := ?_) rfl (by decide) (by kernel_rfl) (by kernel_rfl) (by kernel_rfl) (fun _ _ _ h => h) (Or.inl ⟨by rfl, ?_⟩) (fun _ => by assumption) ?_
 rotate_left
 ·(intro w hSw; go_simp; try (with_reducible rfl))
 try go_frame
 refine anyM_take0 (i := 1) (v := ?_) rfl (by decide) (by kernel_rfl) (by kernel_rfl) (by kernel_rfl) (fun _ _ _ h => h) (Or.inl ⟨by rfl, ?_⟩) (fun _ => by assumption) ?_
 rotate_left
 ·(intro w hSw; go_simp; try (with_reducible rfl))
 try go_frame
 refine anyM_take0 (i := 2) (v := ?_) rfl (by decide) (by kernel_rfl) (by kernel_rfl) (by kernel_rfl) (fun _ _ _ h => h) (Or.inl ⟨by rfl, ?_⟩) (fun _ => by assumption) ?_
 rotate_left
 ·(intro w hSw; go_simp; try (with_reducible rfl))
 try go_frame
 refine anyM_take0 (i := 3) (v := ?_) rfl (by decide) (by kernel_rfl) (by kernel_rfl) (by kernel_rfl) (fun _ _ _ h => h) (Or.inl ⟨by rfl, ?_⟩) (fun _ => by assumption) ?_
 rotate_left
 ·(intro w hSw; go_simp; try (with_reducible rfl))
 try go_frame
 refine anyM_take (i := 4) (v := ?_) rfl rfl (by kernel_rfl) (by decide) (by kernel_rfl) (by kernel_rfl) (by kernel_rfl) (fun _ _ _ h => h) (Or.inl ⟨by rfl, ?_⟩) (by rfl) (by assumption) ?_
 rotate_left
 ·(intro w hSw; (try dsimp only at hSw); (try obtain ⟨hs9, hs10, hs11, hs12, hs13⟩ := hSw); go_simp; try (with_reducible rfl))
 try go_frame
 refine anyM_take (i := 5) (v := ?_) rfl rfl (by kernel_rfl) (by decide) (by kernel_rfl) (by kernel_rfl) (by kernel_rfl) (fun _ _ _ h => h) (Or.inl ⟨by rfl, ?_⟩) (by rfl) (by assumption) ?_
 rotate_left
 ·(intro w hSw; (try dsimp only at hSw); (try obtain ⟨hs9, hs10, hs11, hs12, hs13⟩ := hSw); go_simp; try (with_reducible rfl))
 try go_frame
 have hal : Below X.heap.size X (X.drew.alloc (.cells #[.int .i64 m.kind, .string m.dig, .string m.frm, .string m.dst] 52)) := ((Below.refl _ _).drew).alloc (Nat.le_refl _) _
 have hPA := HPD.out.keep hal
 have hXA := HXM.out.keep hal
 have hRA := own_keepE HRX.out hal
 have hOA := HOX.out.keep hal
 have hHA := And.intro hPA.nine.2 hXA.four
 refine anyM_ready (rs := [6]) (by kernel_rfl) (by simp) ?_
 refine ReadyM.cons rfl (fun K hK => ?_) ReadyM.nil
 go_simp
 refine hK.out _ _ (fun _ => hHA) ?_
 clear hK K
 try go_frame
 refine anyM_ready (rs := [7]) (by kernel_rfl) (by simp) ?_
 refine ReadyM.cons rfl (fun K hK => ?_) ReadyM.nil
 refine step_appM2 rfl _ _ rfl B v ms.length (St.eM.flat ms) (by rfl) (by rfl) (own_keepE HRX.out (Below.refl _ _).drew) (by omega) (by have := HZX.out; have := HSZ.out; show B ≤ X.heap.size; omega) (by rfl) (by simp [Value.oneCell']) ?_
 intro g8 cap8 w8 hown8 hgrow8 hnew8
 have hsA := hal.size
 have hP8 := hPA.farOwn hRA (by decide) hgrow8
 have hX8 : Blk w8 w.heap.size #[.int .i64 m.kind, .string m.dig, .string m.frm, .string m.dst] 52 := hXA.of_block (hgrow8.block _ (by have := HZX.out; omega) (by intro e; have := (HNB.out _ e.symm).1; omega))
 have hH8 := And.intro hP8.nine.2 hX8.four
 refine hK.out _ _ (fun _ => hH8) ?_
 clear hK K hHeld
 try go_frame
 have hHeld := hH8
 refine anyM_take0 (i := 8) (v := ?_) rfl (by decide) (by kernel_rfl) (by kernel_rfl) (by kernel_rfl) (fun _ _ _ h => h) (Or.inl ⟨by rfl, ?_⟩) (fun _ => by assumption) ?_
 rotate_left
 ·(intro w hSw; go_simp; try (with_reducible rfl))
 try go_frame
 refine anyM_take0 (i := 9) (v := ?_) rfl (by decide) (by kernel_rfl) (by kernel_rfl) (by kernel_rfl) (fun _ _ _ h => h) (Or.inl ⟨by rfl, ?_⟩) (fun _ => by assumption) ?_
 rotate_left
 ·(intro w hSw; go_simp; try (with_reducible rfl))
 try go_frame
 clear hHeld hHA hH8
 obtain ⟨⟨n0, n1, n2, n3, n4, n5, n6, n7⟩, n8⟩ := hP8.nine
 have nf := hP8.free
 refine anyM_ready (rs := [10]) (by kernel_rfl) (by simp) ?_
 refine ReadyM.cons rfl (fun K hK => ?_) ReadyM.nil
 go_simp
 refine hK.out _ _ (fun h => absurd h (by simp)) ?_
 clear hK K
 try go_frame
 refine anyM_done (by kernel_rfl) ?_ _
 have hG2 := grown_set (grown_self w8 pb) 8 (.slice (some ⟨g8, 0, none⟩) (ms.length + 1) cap8)
 have hPf := hP8.set 8 (.slice (some ⟨g8, 0, none⟩) (ms.length + 1) cap8)
 have hO8 := (hOA.farOwn hRA hgrow8).farG hP8 (by decide) (by decide) (by decide) (by decide) (by decide) hG2
 have hR8 := own_farG hown8 hP8 (by decide) hG2
 have hfl : St.eM.flat ms ++ (#[.int .i64 m.kind, .string m.dig, .string m.frm, .string m.dst] : Array Value).toList = St.eM.flat (ms ++ [m]) := by rw [Enc.flat_append, Enc.flat_cons]; rfl
 rw [hfl, show ms.length + 1 = (ms ++ [m]).length by simp] at hR8
 have hg8s := hgrow8.size
 have hbl : ∀ q, q < w.heap.size → q ≠ pb → v.ownBlock ≠ some q → (w8.setCell ⟨pb, 8, none⟩ (.slice (some ⟨g8, 0, none⟩) (ms.length + 1) cap8)).heap[q]? = w.heap[q]? := fun q hq hne hv => by
  have := HZX.out
  rw [hG2.block q (by omega) (by intro e; exact hne (Option.some.inj e)), hgrow8.block q (by omega) (fun e => hv e.symm), hal.block q (by omega)]
  exact HFX.out q hq hne
 have hsz : w.heap.size ≤ (w8.setCell ⟨pb, 8, none⟩ (.slice (some ⟨g8, 0, none⟩) (ms.length + 1) cap8)).heap.size := by have := HZX.out; have := hG2.size; omega
 have hnw : ∀ g', (Value.slice (some ⟨g8, 0, none⟩) (ms.length + 1) cap8).ownBlock = some g' → v.ownBlock = some g' ∨ w.heap.size ≤ g' := fun g' e => by
  obtain rfl : g8 = g' := Option.some.inj e
  rcases hnew8 with h | h
  ·exact .inl h
  ·right; have := HZX.out; have h2 : X.drew.heap.size = X.heap.size := rfl; omega
 have HFIN := Lib.hid (And.intro hPf (And.intro hO8 (And.intro hR8 (And.intro hnw (PlFar.mk (w := w) (w' := w8.setCell ⟨pb, 8, none⟩ (.slice (some ⟨g8, 0, none⟩) (ms.length + 1) cap8)) (pb := pb) (v := v) (hG2.os.trans (hgrow8.os.trans (hal.os.trans HEX.out.1))) (hG2.tape.trans (hgrow8.tape.trans (hal.tape.trans HEX.out.2.1))) (hG2.output.trans (hgrow8.output.trans (hal.output.trans HEX.out.2.2))) hsz hbl)))))
 clear hG2 hPf hO8 hR8 hfl hg8s hbl hsz hnw hgrow8 hown8 hnew8 hP8 hX8 n0 n1 n2 n3 n4 n5 n6 n7 n8 nf hPA hXA hRA hOA hal hsA
 go_wp2_with fail
 go_end0
 refine ⟨rfl, ⟨b.ta, b.tc, b.fa, b.fc, g, cc, b.ha, b.hc, b.ba, b.bc⟩, .slice (some ⟨g8, 0, none⟩) (ms.length + 1) cap8, HFIN.out.1, HFIN.out.2.1, ?_, HFIN.out.2.2.2.1, HFIN.out.2.2.2.2, rfl, rfl⟩
 have := HFIN.out.2.2.1
 rwa [show (ms ++ [m]).length = ms.length + 1 by simp] at this ⊢
end Go.Proofs.YthdiccdnggloiaaGreatDoor
