/- Parts of the proof, no condition: RepB. -/
import Derived.Test.YtmpjnbhdlfneaaaGreatDoorEe2
import Derived.Test.YtmpjnbhdlfneaaaGreatDoorEe3
import Derived.Test.YtmpjnbhdlfneaaaGreatDoorEe4
import Derived.OwnWalk
import Derived.BigRegion
import Derived.Deep.Cut
import Derived.Deep.RegionLaw
import Derived.Deep.CutRange
import Derived.Maps.RangeWalk
import Derived.Deep.WholeRow
import Derived.Lib.SmallJoins
import Derived.Laws.IdiomStrings
set_option maxRecDepth 100000
set_option maxHeartbeats 2000000
set_option linter.unusedSimpArgs false
set_option linter.unusedVariables false
namespace Go.Proofs.YtmpjnbhdlfneaaaGreatDoor
open Go.RowKit Go.Sort
def Rep.cells0 (v : Value) : Array Value := (Array.replicate 256 (.slice none 0 0)).push v
theorem Rep.info : ∃ i, Tryz.prog.info? 9 = some i ∧ i.size = 1 := by
 have h : (Tryz.prog.info? 9).map (·.size) = some 1 := by kernel_rfl
 obtain ⟨i, hi, hs⟩ := Option.map_eq_some_iff.1 h
 exact ⟨i, hi, hs⟩
theorem Rep.mk (w : World) : (Instr.makeSlice 38 (.int .i64 0) (.int .i64 2)).run Tryz.prog w = .ok (.slice (some ⟨w.heap.size, 0, none⟩) 0 2) (w.alloc (.cells #[.string ⟨#[]⟩, .string ⟨#[]⟩] 9)) := by kernel_rfl
theorem Rep.size (v : Value) : (Rep.cells0 v).size = 257 := by simp [Rep.cells0]
theorem Rep.one (h : Nat) : (Rep.cells0 (.slice (some ⟨h, 0, none⟩) 0 2)).all (·.oneCell') = true := by
 rw [Array.all_eq_true_iff_forall_mem]
 intro x hx
 rw [Rep.cells0, Array.mem_push] at hx
 rcases hx with hx | rfl
 ·rw [(Array.mem_replicate.1 hx).2]; rfl
 ·rfl
theorem Rep.zero (v : Value) : Tryz.zeroCells182.toList.set 256 v = (Rep.cells0 v).toList := by kernel_rfl
theorem Rep.zsize : Tryz.zeroCells182.size = 257 := by kernel_rfl
theorem Rep.st (h : Nat) (w : World) : (storeCells ⟨w.heap.size, 0, none⟩ (Tryz.zeroCells182.toList.set 256 (.slice (some ⟨h, 0, none⟩) 0 2)) 0).run Tryz.prog (w.alloc (.cells Tryz.zeroCells182 182)) =
  .ok () (w.alloc (.cells (Rep.cells0 (.slice (some ⟨h, 0, none⟩) 0 2)) 182)) := by
 rw [Rep.zero]
 exact run_storeCells_new w _ _ _ (by rw [Rep.size]; kernel_rfl) (by rw [Rep.size, Rep.zsize]) (Rep.one h)
def Rep.At (W : World) (bs : Nat) (f : Nat → Value) (tv : Value) : Prop :=
 ∃ cur : Array Value, W.heap[bs]? = some (.cells cur 182 (0, 0)) ∧ cur.size = 257 ∧ (∀ x, x < 256 → cur[x]? = some (f x)) ∧ cur[256]? = some tv
theorem Rep.At.lt {W : World} {bs : Nat} {f : Nat → Value} {tv : Value} (h : Rep.At W bs f tv) : bs < W.heap.size := by
 obtain ⟨cur, h, _⟩ := h; exact (Array.getElem?_eq_some_iff.1 h).1
theorem Rep.At.of_block {W W' : World} {bs : Nat} {f : Nat → Value} {tv : Value} (h : Rep.At W bs f tv) (hb : W'.heap[bs]? = W.heap[bs]?) : Rep.At W' bs f tv := by
 obtain ⟨cur, h, r⟩ := h; exact ⟨cur, hb.trans h, r⟩
theorem Rep.At.cell {W : World} {bs : Nat} {f : Nat → Value} {tv : Value} (h : Rep.At W bs f tv) (x : Nat) (hx : x < 256) : W.cell? ⟨bs, x, none⟩ = some (f x) := by
 obtain ⟨cur, h, _, hf, _⟩ := h
 rw [cell_of_row _ _ x cur _ _ h]; exact hf x hx
theorem Rep.At.list {W : World} {bs : Nat} {f : Nat → Value} {tv : Value} (h : Rep.At W bs f tv) : W.cell? ⟨bs, 256, none⟩ = some tv := by
 obtain ⟨cur, h, _, _, hf⟩ := h
 rw [cell_of_row _ _ 256 cur _ _ h]; exact hf
theorem Rep.At.frozen {W : World} {bs : Nat} {f : Nat → Value} {tv : Value} (h : Rep.At W bs f tv) (o : Nat) : W.frozen? ⟨bs, o, none⟩ = false := by
 obtain ⟨cur, h, _⟩ := h; exact frozen_of h o
theorem Rep.At.put {W : World} {bs : Nat} {f : Nat → Value} {tv : Value} (h : Rep.At W bs f tv) (x : Nat) (hx : x < 256) (v : Value) : Rep.At (W.setCell ⟨bs, x, none⟩ v) bs (fun y => if y = x then v else f y) tv := by
 obtain ⟨cur, h, hs, hf, ht⟩ := h
 refine ⟨cur.setIfInBounds x v, Joins.block_setCell h v, by simpa using hs, fun y hy => ?_, ?_⟩
 ·rw [Array.getElem?_setIfInBounds]
  show _ = some (if y = x then v else f y)
  by_cases e : x = y
  ·subst e; rw [if_pos rfl, if_pos (by omega), if_pos rfl]
  ·rw [if_neg e, if_neg (fun k : y = x => e k.symm)]; exact hf y hy
 ·rw [Array.getElem?_setIfInBounds, if_neg (by omega)]; exact ht
theorem Rep.At.putList {W : World} {bs : Nat} {f : Nat → Value} {tv : Value} (h : Rep.At W bs f tv) (v : Value) : Rep.At (W.setCell ⟨bs, 256, none⟩ v) bs f v := by
 obtain ⟨cur, h, hs, hf, ht⟩ := h
 refine ⟨cur.setIfInBounds 256 v, Joins.block_setCell h v, by simpa using hs, fun y hy => ?_, ?_⟩
 ·rw [Array.getElem?_setIfInBounds, if_neg (by omega)]; exact hf y hy
 ·rw [Array.getElem?_setIfInBounds, if_pos rfl, if_pos (by omega)]
theorem Rep.At.new (w : World) (v : Value) : Rep.At (w.alloc (.cells (Rep.cells0 v) 182)) w.heap.size (fun _ => .slice none 0 0) v := by
 refine ⟨_, heap_alloc_last w _, Rep.size v, fun x hx => ?_, ?_⟩
 ·rw [Rep.cells0, Array.getElem?_push, if_neg (by simp; omega)]; simp [hx]
 ·rw [Rep.cells0, Array.getElem?_push, if_pos (by simp)]
theorem Rep.isnil (w : World) : (binOp .eql 34 (.slice none 0 0) (.slice none 0 0)).run Tryz.prog w = .ok (.bool true) w := by kernel_rfl
def Rep.Two (W : World) (B bs h : Nat) (v : Value) (x y : Int) : Prop :=
 ∃ p c, v = .slice (some ⟨p, 0, none⟩) 2 c ∧ B ≤ p ∧ p < W.heap.size ∧ p ≠ bs ∧ p ≠ h ∧ W.cell? ⟨p, 0, none⟩ = some (.int .u8 x) ∧ W.cell? ⟨p, 1, none⟩ = some (.int .u8 y)
theorem Rep.Two.of {W W' : World} {B bs h : Nat} {v : Value} {x y : Int} (k : Rep.Two W B bs h v x y) (hs : W.heap.size ≤ W'.heap.size) (hb : ∀ p, p < W.heap.size → p ≠ bs → p ≠ h → W'.heap[p]? = W.heap[p]?) : Rep.Two W' B bs h v x y := by
 obtain ⟨p, c, rfl, h1, h2, h3, h4, h5, h6⟩ := k
 have e := hb p h2 h3 h4
 refine ⟨p, c, rfl, h1, by omega, h3, h4, ?_, ?_⟩
 ·rw [World.cell?] at h5 ⊢; simp only [e]; exact h5
 ·rw [World.cell?] at h6 ⊢; simp only [e]; exact h6
theorem Rep.conv (W : World) (x y : UInt8) : ∃ c W5, (convert 9 34 (.string ⟨#[x, y]⟩)).run Tryz.prog W = .ok (.slice (some ⟨W.heap.size, 0, none⟩) 2 c) W5 ∧ W5.heap.size = W.heap.size + 1 ∧
  Below W.heap.size W W5 ∧ W5.cell? ⟨W.heap.size, 0, none⟩ = some (.int .u8 x.toNat) ∧ W5.cell? ⟨W.heap.size, 1, none⟩ = some (.int .u8 y.toNat) := by
 have h := run_bytes_of_string (P := Tryz.prog) W 9 34 5 ⟨#[x, y]⟩ Tryz.underlying9 Tryz.underlying34 Tryz.underlying5
 refine ⟨_, _, h, by simp, (Below.refl _ _).drew.alloc (by simp) _, ?_, ?_⟩
 ·rw [Joins.cell_alloc_mark_at _ _ _ _ _ _ (by simp), bytesRow, Array.getElem?_append_left (by simp)]; simp
 ·rw [Joins.cell_alloc_mark_at _ _ _ _ _ _ (by simp), bytesRow, Array.getElem?_append_left (by simp)]; simp
def Rep.St (w : World) (B bs h : Nat) (j : Nat) (W : World) : Prop :=
 ∃ f, Rep.At W bs f (.slice (some ⟨h, 0, none⟩) j 2) ∧ (∀ x, x ≠ 34 → x ≠ 92 → f x = .slice none 0 0) ∧ (if j ≤ 1 then f 34 = .slice none 0 0 else Rep.Two W B bs h (f 34) 92 34) ∧ (if j ≤ 0 then f 92 = .slice none 0 0 else Rep.Two W B bs h (f 92) 92 92) ∧
   OwnC W B 9 1 h j 2 ([.string ⟨#[92]⟩, .string ⟨#[34]⟩].take j) ∧ Below w.heap.size w W
theorem build_is {cp : Nat} (b o : Nat) (w : World) (q : w.cell? ⟨b, 4, none⟩ = some (.slice (some ⟨o, 0, none⟩) 4 cp)) (s0 : w.cell? ⟨o, 0, none⟩ = some (.string ⟨#[34]⟩)) (s1 : w.cell? ⟨o, 1, none⟩ = some (.string ⟨#[92, 34]⟩))
  (s2 : w.cell? ⟨o, 2, none⟩ = some (.string ⟨#[92]⟩)) (s3 : w.cell? ⟨o, 3, none⟩ = some (.string ⟨#[92, 92]⟩)) (ho : o < w.heap.size) :
  Calls Tryz.prog 121 #[.pointer (some ⟨b, 0, none⟩)] w fun e w' => e = .returned (.iface 183 (.pointer (some ⟨w.heap.size + 1, 0, none⟩))) ∧ Rep.St w w.heap.size (w.heap.size + 1) w.heap.size 2 w' := by
 obtain ⟨i9, hi9', hs9'⟩ := Rep.info
 have hi9 := Lib.hid hi9'; have hs9 := Lib.hid hs9'; clear hi9' hs9'
 go_enter Tryz.func121, Tryz.ntmps121
 go_wp2_with fail
 go_loopg [5, 4] 2 (fun gk i al wr => ∃ j : Nat, gk = 2 - j ∧ (i = .int .i64 0 ∧ al = .bool true ∧ j = 0 ∨ i = .int .i64 2 ∧ al = .bool false ∧ j = 1 ∨ i = .int .i64 4 ∧ al = .bool false ∧ j = 2) ∧ wr = w)
 case atStart => exact ⟨0, rfl, .inl ⟨rfl, rfl, rfl⟩, rfl⟩
 case round =>
  obtain ⟨j, rfl, ⟨rfl, rfl, rfl⟩ | ⟨rfl, rfl, rfl⟩ | ⟨rfl, rfl, rfl⟩, rfl⟩ := hrel
  ·go_wp2_with fail
   go_roundg (2 - (0 + 1))
   case rel => exact ⟨1, rfl, .inr (.inl ⟨rfl, rfl, rfl⟩), rfl⟩
   case measure => omega
  ·go_wp2_with fail
   go_roundg (2 - (1 + 1))
   case rel => exact ⟨2, rfl, .inr (.inr ⟨rfl, rfl, rfl⟩), rfl⟩
   case measure => omega
  ·have hmk := Rep.mk wr
   have hst := Rep.st wr.heap.size (wr.alloc (.cells #[.string ⟨#[]⟩, .string ⟨#[]⟩] 9))
   simp only [World.size_alloc] at hst
   have hRA := Rep.At.new (wr.alloc (.cells #[.string ⟨#[]⟩, .string ⟨#[]⟩] 9)) (.slice (some ⟨wr.heap.size, 0, none⟩) 0 2)
   simp only [World.size_alloc] at hRA
   go_upto_region 27 with fail
   all_goals
    go_wp2_with fail
    have hS0 : Rep.St wr wr.heap.size (wr.heap.size + 1) wr.heap.size 0 ((wr.alloc (.cells #[.string ⟨#[]⟩, .string ⟨#[]⟩] 9)).alloc (.cells (Rep.cells0 (.slice (some ⟨wr.heap.size, 0, none⟩) 0 2)) 182)) :=
     ⟨_, hRA, fun _ _ _ => rfl, by simp, by simp, (own_make (cur := #[.string ⟨#[]⟩, .string ⟨#[]⟩]) (Nat.le_refl _) (heap_alloc_last wr _) (by omega) (by simp [maxLen]) (by simp) rfl).alloc _, ((Below.refl _ _).alloc (Nat.le_refl _) _).alloc (by simp) _⟩
    generalize (wr.alloc (.cells #[.string ⟨#[]⟩, .string ⟨#[]⟩] 9)).alloc (.cells (Rep.cells0 (.slice (some ⟨wr.heap.size, 0, none⟩) 0 2)) 182) = V0 at hS0 ⊢
    clear hmk hst hRA
    obtain ⟨w0, hw0⟩ : ∃ w0, w0 = wr := ⟨_, rfl⟩
    subst hw0
    go_loopg [12] 2 (fun gk i wr => ∃ j : Nat, gk = 2 - j ∧ (i = .int .i64 2 ∧ j = 0 ∨ i = .int .i64 0 ∧ j = 1 ∨ i = .int .i64 (-2) ∧ j = 2) ∧ Rep.St w0 w0.heap.size (w0.heap.size + 1) w0.heap.size j wr)
    case atStart => exact ⟨0, rfl, .inl ⟨rfl, rfl⟩, hS0⟩
    case round =>
     obtain ⟨j, rfl, ⟨rfl, rfl⟩ | ⟨rfl, rfl⟩ | ⟨rfl, rfl⟩, hS⟩ := hrel
     ·obtain ⟨f, hA, hf, h34, h92, hO, hB⟩ := hS
      rw [if_pos (by omega)] at h34 h92
      have c2 := (hB.cell (p := ⟨o, 2, none⟩) ho).trans s2
      have c3 := (hB.cell (p := ⟨o, 3, none⟩) ho).trans s3
      have cx := hA.cell 92 (by omega)
      rw [h92] at cx
      have cl := hA.list
      have hlt := hA.lt
      have hcv : (convert 34 9 (.slice (some ⟨wr.heap.size, 0, none⟩) 1 1)).run Tryz.prog (wr.alloc (.cells #[.int .u8 92] 5)) = .ok (.string ⟨#[92]⟩) (wr.alloc (.cells #[.int .u8 92] 5)) :=
       run_convert_bytes_back (P := Tryz.prog) (wr.alloc (.cells #[.int .u8 92] 5)) 34 9 5 ⟨wr.heap.size, 0, none⟩ 1 [92] Tryz.underlying34 Tryz.underlying5 Tryz.underlying9 (fun j hj => by
        have h0 : j = 0 := by simpa using hj
        subst h0
        rw [show (⟨wr.heap.size, 0, none⟩ : Addr).add 0 = ⟨wr.heap.size, 0, none⟩ from rfl, World.cell?_alloc_mark]; rfl)
      have hx0 : (((⟨#[92]⟩ : ByteArray)[0]'(by decide)).toNat : Int) = 92 := rfl
      have hin := Rep.isnil
      have hbk : ∀ k, k < wr.heap.size → ((wr.alloc (.cells #[.int .u8 92] 5)).alloc (.cells #[.string ⟨#[92]⟩] 9)).heap[k]? = wr.heap[k]? := fun k hk => (Below.heap_alloc _ _ k (by simp; omega)).trans (Below.heap_alloc _ _ k hk)
      have hA1 := hA.of_block (hbk _ hlt)
      have cl1 := hA1.list
      obtain ⟨W3, hap, hO3, hG3⟩ := own_append (P := Tryz.prog) ((hO.alloc (.cells #[.int .u8 92] 5)).alloc (.cells #[.string ⟨#[92]⟩] 9)) 38 i9 Tryz.underlying38 hi9.out hs9.out ⟨wr.heap.size + 1, 0, none⟩ 1 [.string ⟨#[92]⟩] rfl (fun j u hu => by
       have h0 : j = 0 := by
        have := (List.getElem?_eq_some_iff.1 hu).1
        simpa using this
       subst h0
       have h1 : u = .string ⟨#[92]⟩ := by simpa using hu.symm
       subst h1
       rw [show (⟨wr.heap.size + 1, 0, none⟩ : Addr).add 0 = ⟨wr.heap.size + 1, 0, none⟩ from rfl, Joins.cell_alloc_mark_at _ _ _ _ _ _ (by simp)]; rfl) (by simp [Value.oneCell']) (by omega)
      have hb3 : ∀ k, k < wr.heap.size → k ≠ w0.heap.size → W3.heap[k]? = wr.heap[k]? := fun k hk hn => (hG3.block k (by simp; omega) (by simpa using hn)).trans (hbk k hk)
      have hs3 : wr.heap.size + 2 ≤ W3.heap.size := by have := hG3.size; simpa using this
      have hA3 := hA.of_block (hb3 _ hlt (by omega))
      have cl3 := hA3.list
      have zl3 := hA3.frozen 256
      go_upto_region 34 with (at_builtin; refine Lib.wpList_append_run _ rfl _ _ _ _ rfl _ _ rfl rfl _ _ (hap _ _) ?_)
      have hA4 := hA3.putList (.slice (some ⟨w0.heap.size, 0, none⟩) 1 2)
      have hO4 := hO3.of_block (Below.heap_setCell W3 ⟨w0.heap.size + 1, 256, none⟩ (.slice (some ⟨w0.heap.size, 0, none⟩) 1 2) w0.heap.size (by simp))
      have hb4 : ∀ k, k < wr.heap.size → k ≠ w0.heap.size + 1 → k ≠ w0.heap.size → (W3.setCell ⟨w0.heap.size + 1, 256, none⟩ (.slice (some ⟨w0.heap.size, 0, none⟩) 1 2)).heap[k]? = wr.heap[k]? := fun k hk h1 h2 => (Below.heap_setCell _ _ _ k h1).trans (hb3 k hk h2)
      have hB4 := ((((hB.alloc (by omega) (.cells #[.int .u8 92] 5)).alloc (by simp; omega) (.cells #[.string ⟨#[92]⟩] 9)).grown hG3 (by simp; omega) (fun k hk => by cases hk; exact Nat.le_refl _)).setCell (p := ⟨w0.heap.size + 1, 256, none⟩) (Nat.le_succ _) (.slice (some ⟨w0.heap.size, 0, none⟩) 1 2))
      have hs4 : wr.heap.size ≤ (W3.setCell ⟨w0.heap.size + 1, 256, none⟩ (.slice (some ⟨w0.heap.size, 0, none⟩) 1 2)).heap.size := by simp; omega
      generalize W3.setCell ⟨w0.heap.size + 1, 256, none⟩ (.slice (some ⟨w0.heap.size, 0, none⟩) 1 2) = W4 at hA4 hO4 hb4 hB4 hs4 ⊢
      clear hap hO3 hG3 hb3 hs3 hA3 cl3 zl3 hcv hbk hA1 cl1
      obtain ⟨c, W5, hcb, hz5, hb5, k0, k1⟩ := Rep.conv W4 92 92
      have hA5 := hA4.of_block (hb5.block _ hA4.lt)
      have cx5 := hA5.cell 92 (by omega)
      have zx5 := hA5.frozen 92
      have hO5 := (hO4.keep hb5).of_block (Below.heap_setCell W5 ⟨w0.heap.size + 1, 92, none⟩ (.slice (some ⟨W4.heap.size, 0, none⟩) 2 c) w0.heap.size (by simp))
      have hA6 := hA5.put 92 (by omega) (.slice (some ⟨W4.heap.size, 0, none⟩) 2 c)
      have hB6 := (hB4.trans (hb5.mono (by omega))).setCell (p := ⟨w0.heap.size + 1, 92, none⟩) (Nat.le_succ _) (.slice (some ⟨W4.heap.size, 0, none⟩) 2 c)
      have hT6 : Rep.Two (W5.setCell ⟨w0.heap.size + 1, 92, none⟩ (.slice (some ⟨W4.heap.size, 0, none⟩) 2 c)) w0.heap.size (w0.heap.size + 1) w0.heap.size (.slice (some ⟨W4.heap.size, 0, none⟩) 2 c) 92 92 := by
       refine ⟨W4.heap.size, c, rfl, by omega, by simp; omega, by omega, by omega, ?_, ?_⟩
       ·rw [World.cell?_of_block (Below.heap_setCell _ _ _ _ (by simp; omega))]; exact k0
       ·rw [World.cell?_of_block (Below.heap_setCell _ _ _ _ (by simp; omega))]; exact k1
      have HX := Lib.hid (And.intro hA6 (And.intro hO5 (And.intro hB6 hT6)))
      have HK : Hid (∀ k, k < wr.heap.size → k ≠ w0.heap.size + 1 → k ≠ w0.heap.size → (W5.setCell ⟨w0.heap.size + 1, 92, none⟩ (.slice (some ⟨W4.heap.size, 0, none⟩) 2 c)).heap[k]? = wr.heap[k]?) := Lib.hid fun k hk h1 h2 => (Below.heap_setCell _ _ _ k h1).trans ((hb5.block k (by omega)).trans (hb4 k hk h1 h2))
      have HS : Hid (wr.heap.size ≤ (W5.setCell ⟨w0.heap.size + 1, 92, none⟩ (.slice (some ⟨W4.heap.size, 0, none⟩) 2 c)).heap.size) := Lib.hid (by simp; omega)
      clear hA6 hO5 hB6 hT6 k0 k1 hb4 hB4 hO4 hA4 hz5 hs4
      go_wp2_with fail
      go_roundg (2 - (0 + 1))
      case rel =>
       obtain ⟨a1, a2, a3, a4⟩ := HX.out
       exact ⟨1, rfl, .inr (.inl ⟨rfl, rfl⟩), _, a1, fun x h1 h2 => by rw [if_neg h2]; exact hf x h1 h2, by rw [if_pos (by omega), if_neg (by omega)]; exact h34, by rw [if_neg (by omega), if_pos rfl]; exact a4, a2, a3⟩
      case measure => omega
     ·obtain ⟨f, hA, hf, h34, h92, hO, hB⟩ := hS
      rw [if_pos (by omega)] at h34
      rw [if_neg (by omega)] at h92
      have c2 := (hB.cell (p := ⟨o, 0, none⟩) ho).trans s0
      have c3 := (hB.cell (p := ⟨o, 1, none⟩) ho).trans s1
      have cx := hA.cell 34 (by omega)
      rw [h34] at cx
      have cl := hA.list
      have hlt := hA.lt
      have hcv : (convert 34 9 (.slice (some ⟨wr.heap.size, 0, none⟩) 1 1)).run Tryz.prog (wr.alloc (.cells #[.int .u8 34] 5)) = .ok (.string ⟨#[34]⟩) (wr.alloc (.cells #[.int .u8 34] 5)) :=
       run_convert_bytes_back (P := Tryz.prog) (wr.alloc (.cells #[.int .u8 34] 5)) 34 9 5 ⟨wr.heap.size, 0, none⟩ 1 [34] Tryz.underlying34 Tryz.underlying5 Tryz.underlying9 (fun j hj => by
        have h0 : j = 0 := by simpa using hj
        subst h0
        rw [show (⟨wr.heap.size, 0, none⟩ : Addr).add 0 = ⟨wr.heap.size, 0, none⟩ from rfl, World.cell?_alloc_mark]; rfl)
      have hx0 : (((⟨#[34]⟩ : ByteArray)[0]'(by decide)).toNat : Int) = 34 := rfl
      have hin := Rep.isnil
      have hbk : ∀ k, k < wr.heap.size → ((wr.alloc (.cells #[.int .u8 34] 5)).alloc (.cells #[.string ⟨#[34]⟩] 9)).heap[k]? = wr.heap[k]? := fun k hk => (Below.heap_alloc _ _ k (by simp; omega)).trans (Below.heap_alloc _ _ k hk)
      have hA1 := hA.of_block (hbk _ hlt)
      have cl1 := hA1.list
      obtain ⟨W3, hap, hO3, hG3⟩ := own_append (P := Tryz.prog) ((hO.alloc (.cells #[.int .u8 34] 5)).alloc (.cells #[.string ⟨#[34]⟩] 9)) 38 i9 Tryz.underlying38 hi9.out hs9.out ⟨wr.heap.size + 1, 0, none⟩ 1 [.string ⟨#[34]⟩] rfl (fun j u hu => by
       have h0 : j = 0 := by
        have := (List.getElem?_eq_some_iff.1 hu).1
        simpa using this
       subst h0
       have h1 : u = .string ⟨#[34]⟩ := by simpa using hu.symm
       subst h1
       rw [show (⟨wr.heap.size + 1, 0, none⟩ : Addr).add 0 = ⟨wr.heap.size + 1, 0, none⟩ from rfl, Joins.cell_alloc_mark_at _ _ _ _ _ _ (by simp)]; rfl) (by simp [Value.oneCell']) (by omega)
      have hb3 : ∀ k, k < wr.heap.size → k ≠ w0.heap.size → W3.heap[k]? = wr.heap[k]? := fun k hk hn => (hG3.block k (by simp; omega) (by simpa using hn)).trans (hbk k hk)
      have hs3 : wr.heap.size + 2 ≤ W3.heap.size := by have := hG3.size; simpa using this
      have hA3 := hA.of_block (hb3 _ hlt (by omega))
      have cl3 := hA3.list
      have zl3 := hA3.frozen 256
      go_upto_region 34 with (at_builtin; refine Lib.wpList_append_run _ rfl _ _ _ _ rfl _ _ rfl rfl _ _ (hap _ _) ?_)
      have hA4 := hA3.putList (.slice (some ⟨w0.heap.size, 0, none⟩) 2 2)
      have hO4 := hO3.of_block (Below.heap_setCell W3 ⟨w0.heap.size + 1, 256, none⟩ (.slice (some ⟨w0.heap.size, 0, none⟩) 2 2) w0.heap.size (by simp))
      have hb4 : ∀ k, k < wr.heap.size → k ≠ w0.heap.size + 1 → k ≠ w0.heap.size → (W3.setCell ⟨w0.heap.size + 1, 256, none⟩ (.slice (some ⟨w0.heap.size, 0, none⟩) 2 2)).heap[k]? = wr.heap[k]? := fun k hk h1 h2 => (Below.heap_setCell _ _ _ k h1).trans (hb3 k hk h2)
      have hB4 := ((((hB.alloc (by omega) (.cells #[.int .u8 34] 5)).alloc (by simp; omega) (.cells #[.string ⟨#[34]⟩] 9)).grown hG3 (by simp; omega) (fun k hk => by cases hk; exact Nat.le_refl _)).setCell (p := ⟨w0.heap.size + 1, 256, none⟩) (Nat.le_succ _) (.slice (some ⟨w0.heap.size, 0, none⟩) 2 2))
      have hs4 : wr.heap.size ≤ (W3.setCell ⟨w0.heap.size + 1, 256, none⟩ (.slice (some ⟨w0.heap.size, 0, none⟩) 2 2)).heap.size := by simp; omega
      generalize W3.setCell ⟨w0.heap.size + 1, 256, none⟩ (.slice (some ⟨w0.heap.size, 0, none⟩) 2 2) = W4 at hA4 hO4 hb4 hB4 hs4 ⊢
      clear hap hO3 hG3 hb3 hs3 hA3 cl3 zl3 hcv hbk hA1 cl1
      obtain ⟨c, W5, hcb, hz5, hb5, k0, k1⟩ := Rep.conv W4 92 34
      have hA5 := hA4.of_block (hb5.block _ hA4.lt)
      have cx5 := hA5.cell 34 (by omega)
      have zx5 := hA5.frozen 34
      have hO5 := (hO4.keep hb5).of_block (Below.heap_setCell W5 ⟨w0.heap.size + 1, 34, none⟩ (.slice (some ⟨W4.heap.size, 0, none⟩) 2 c) w0.heap.size (by simp))
      have hA6 := hA5.put 34 (by omega) (.slice (some ⟨W4.heap.size, 0, none⟩) 2 c)
      have hB6 := (hB4.trans (hb5.mono (by omega))).setCell (p := ⟨w0.heap.size + 1, 34, none⟩) (Nat.le_succ _) (.slice (some ⟨W4.heap.size, 0, none⟩) 2 c)
      have hT6 : Rep.Two (W5.setCell ⟨w0.heap.size + 1, 34, none⟩ (.slice (some ⟨W4.heap.size, 0, none⟩) 2 c)) w0.heap.size (w0.heap.size + 1) w0.heap.size (.slice (some ⟨W4.heap.size, 0, none⟩) 2 c) 92 34 := by
       refine ⟨W4.heap.size, c, rfl, by omega, by simp; omega, by omega, by omega, ?_, ?_⟩
       ·rw [World.cell?_of_block (Below.heap_setCell _ _ _ _ (by simp; omega))]; exact k0
       ·rw [World.cell?_of_block (Below.heap_setCell _ _ _ _ (by simp; omega))]; exact k1
      have HX := Lib.hid (And.intro hA6 (And.intro hO5 (And.intro hB6 hT6)))
      have HK : Hid (∀ k, k < wr.heap.size → k ≠ w0.heap.size + 1 → k ≠ w0.heap.size → (W5.setCell ⟨w0.heap.size + 1, 34, none⟩ (.slice (some ⟨W4.heap.size, 0, none⟩) 2 c)).heap[k]? = wr.heap[k]?) := Lib.hid fun k hk h1 h2 => (Below.heap_setCell _ _ _ k h1).trans ((hb5.block k (by omega)).trans (hb4 k hk h1 h2))
      have HS : Hid (wr.heap.size ≤ (W5.setCell ⟨w0.heap.size + 1, 34, none⟩ (.slice (some ⟨W4.heap.size, 0, none⟩) 2 c)).heap.size) := Lib.hid (by simp; omega)
      clear hA6 hO5 hB6 hT6 k0 k1 hb4 hB4 hO4 hA4 hz5 hs4
      go_wp2_with fail
      go_roundg (2 - (1 + 1))
      case rel =>
       obtain ⟨a1, a2, a3, a4⟩ := HX.out
       exact ⟨2, rfl, .inr (.inr ⟨rfl, rfl⟩), _, a1, fun x h1 h2 => by rw [if_neg h1]; exact hf x h1 h2, by rw [if_neg (by omega), if_pos rfl]; exact a4, by rw [if_neg (by omega), if_neg (by omega)]; exact h92.of HS.out HK.out, a2, a3⟩
      case measure => omega
     ·go_wp2_with fail
      go_ret
      exact ⟨rfl, hS⟩
end Go.Proofs.YtmpjnbhdlfneaaaGreatDoor
