/- Parts of the proof, no condition: Kit, Stb, StHeld, StGood, StTlM, DigMath, StFetM, StCln, StApp, StTlP, StMem, StDelF. -/
import Derived.Test.YthdiccdnggloiaaGreatDoorEv16
import Derived.Test.YthdiccdnggloiaaGreatDoorEv17
import Derived.Test.YthdiccdnggloiaaGreatDoorProg
import Derived.WalkKit
import Derived.WalkSpells
import Derived.WalkLawsBesides
import Derived.Deep.QuietTactic
import Derived.BigQuiet
import Derived.Lib.Hide
import Derived.Lib.QuietBelow
import Derived.Deep.LoopGhost
import Derived.Deep.OwnRows
import Derived.Outline
import Derived.OwnWalk
import Derived.Laws.IdiomCopy
import Derived.Lib.AppendZeros
import Derived.Deep.RegionLaw
import Derived.ArgAppend
import Derived.Deep.MidRow
import Derived.BigRegion
import Derived.Maps.RangeWalk
import Derived.Deep.Cut
import Derived.Lib.Atoi
import Derived.Lib.SlTrimSet
import Derived.Deep.DeepCutAuto
import Derived.Shelf.Abstract
import Derived.Deep.AppendLies
import Derived.Laws.Tables
import Derived.Laws.Rows
import Derived.Laws.CopyOwn
import Derived.Deep.RegionHeld3
set_option maxRecDepth 100000
set_option maxHeartbeats 8000000
set_option linter.unusedSimpArgs false
set_option linter.unusedVariables false
namespace Go.Proofs.YthdiccdnggloiaaGreatDoor
open Go.RowKit Go.Sort
namespace Blk
variable {w w' : World} {b : Nat} {c : Array Value} {t : TypeId}
theorem three {x y z : Value} (h : Blk w b #[x, y, z] t) : w.cell? ⟨b, 0, none⟩ = some x ∧ w.cell? ⟨b, 1, none⟩ = some y ∧ w.cell? ⟨b, 2, none⟩ = some z :=
 ⟨by rw [h.cell]; rfl, by rw [h.cell]; rfl, by rw [h.cell]; rfl⟩
end Blk
end Go.Proofs.YthdiccdnggloiaaGreatDoor
namespace Go.Proofs.YthdiccdnggloiaaGreatDoor
open Go.RowKit
theorem wp_clear_run {P : Program} (w : World) {o : Oper} {a : Act} {K : Act → World → Prop} {Q : Exit → Act → World → Prop} (x : Operand) (t : TypeId)
  (ho : o.op = .call { callee := .builtin .clear, args := #[x], argTypes := #[t] }) (v : Value) (hx : a.eval x = v) {v' : Value} {w' : World}
  (hr : (Builtin.clear_ #[t] o.type #[v]).run P w = .ok v' w') (h : K (a.put o.dst v') w') : o.wp P a w K Q := by
 unfold Oper.wp execOp
 simp only [ho, resolve, invoke, builtin, Sem.run_bind, Sem.run_pure, Result.andThen_ok, List.map_toArray, List.map_cons, List.map_nil, hx, hr]
 exact h
theorem wpList_clear_run {P : Program} (w : World) {ops : Array Oper} {rest : List Oper} {o : Oper} {a : Act} {Q : Exit → Act → World → Prop} (hgd : o.guard = none) (x : Operand) (t : TypeId)
  (ho : o.op = .call { callee := .builtin .clear, args := #[x], argTypes := #[t] }) (v : Value) (hx : a.eval x = v) {v' : Value} {w' : World}
  (hr : (Builtin.clear_ #[t] o.type #[v]).run P w = .ok v' w') (h : wpList P ops Q rest (a.put o.dst v') w') : wpList P ops Q (o :: rest) a w :=
 wpList_plain hgd fun _ hK => wp_clear_run w x t ho v hx hr (hK _ _ h)
section
variable {w : World} {B k g n cap : Nat} {e : TypeId} {xs : List Value}
theorem own_less (h : OwnC w B e k g n cap xs) {m : Nat} (hm : m ≤ n) : OwnC w B e k g m cap (xs.take (m * k)) := by
 obtain ⟨cur, hB, hc, hn, hx, hs, ht, hl⟩ := h
 refine own_make hB hc (by omega) hx hs ?_
 rw [← ht, List.take_take, Nat.min_eq_left (Nat.mul_le_mul_right k hm)]
theorem own_clear {P : Program} (h : OwnC w B e k g n cap xs) (t : TypeId) (ht : P.underlying t = some (.slice e)) (z : Value) (hz : ∀ w, (zeroValue e).run P w = .ok z w) (hzs : z.cells.size = k) (h1 : ∀ v ∈ z.cells.toList, v.oneCell' = true)
  (p m : Nat) (hm : 0 < m) (hp : p + m * k = n * k) :
  ∃ w', (∀ ty c, (Builtin.clear_ #[t] ty #[.slice (some ⟨g, p, none⟩) m c]).run P w = .ok (.tuple #[]) w') ∧ (∃ zs, OwnC w' B e k g n cap (xs.take p ++ zs)) ∧ w.grownBy w' (some g) := by
 have hzl : (Builtin.zeroCells z.cells m).toList.length = m * k := by rw [← hzs]; simp [Builtin.zeroCells]
 have hz1 : ∀ v ∈ (Builtin.zeroCells z.cells m).toList, v.oneCell' = true := by
  intro v hv
  refine h1 v ?_
  simp [Builtin.zeroCells] at hv
  obtain ⟨i, hi, rfl⟩ := hv
  have hp : 0 < z.cells.size := by
   rcases Nat.eq_zero_or_pos z.cells.size with h0 | h0
   ·rw [h0] at hi; simp at hi
   ·exact h0
  have hlt : i % z.cells.size < z.cells.size := Nat.mod_lt _ hp
  rw [getElem!_pos z.cells _ hlt]
  simp
 obtain ⟨cur, hc, hl, ho, hg⟩ := own_setRow h p (Builtin.zeroCells z.cells m).toList (by rw [hzl]; omega)
 refine ⟨_, fun ty c => ?_, ⟨(Builtin.zeroCells z.cells m).toList ++ xs.drop (p + (Builtin.zeroCells z.cells m).toList.length), by rw [← List.append_assoc]; exact ho⟩, hg⟩
 have hst := run_storeCells_at (P := P) g p e (Builtin.zeroCells z.cells m).toList 0 cur w hc (by omega) hz1
 rw [Nat.add_zero] at hst
 obtain ⟨m', rfl⟩ : ∃ m', m = m' + 1 := ⟨m - 1, by omega⟩
 simp [Builtin.clear_, run_underlying ht, hz, hst]
end
namespace Enc
variable {α : Type} (E : Enc α)
end Enc
end Go.Proofs.YthdiccdnggloiaaGreatDoor
namespace Go.Proofs.YthdiccdnggloiaaGreatDoor
namespace Stb
variable {α : Type} (lt : α → α → Prop) (neg : α → α → Bool)
variable {lt neg}
end Stb
end Go.Proofs.YthdiccdnggloiaaGreatDoor
namespace Go.Proofs.YthdiccdnggloiaaGreatDoor
open Go.RowKit
namespace SRow
variable {α : Type} {E : Enc α} {w w' : World} {B g cap n : Nat} {e : TypeId} {L : List α}
end SRow
namespace SRow
variable {α : Type} {E : Enc α} {w w' : World} {B g cap n : Nat} {e : TypeId} {L : List α}
end SRow
end Go.Proofs.YthdiccdnggloiaaGreatDoor
namespace Go.Proofs.YthdiccdnggloiaaGreatDoor
namespace Stb
variable {α : Type}
variable {lt : α → α → Prop} {neg : α → α → Bool}
end Stb
end Go.Proofs.YthdiccdnggloiaaGreatDoor
namespace Go.Proofs.YthdiccdnggloiaaGreatDoor
open Go.RowKit Go.Sort
section
variable {P : Program} {ops : Array Oper} {Q : Exit → Act → World → Prop} {md : Region.Mode} {C : World → Prop} {m : Nat}
variable {f : Nat} {l : Array Bool} {a : Act} {w : World} {oi : Oper}
end





namespace Stb
variable {α : Type} {lt : α → α → Prop} {neg : α → α → Bool}
end Stb

end Go.Proofs.YthdiccdnggloiaaGreatDoor
namespace Go.Proofs.YthdiccdnggloiaaGreatDoor
open Go.RowKit
namespace St
def neededL (s : Sto) : List ByteArray := (s.files.filter (needed s)).map (·.dig)
end St
namespace St
def lostL (s : Sto) : List ByteArray := (neededL s).filter fun d => (goodL s d).length == 0
end St
structure Lck where
 dig : ByteArray
 cop : Int
 awy : Int
namespace St
def eL : Enc Lck := ⟨3, fun m => [.string m.dig, .int .i64 m.cop, .int .i64 m.awy], fun _ => rfl, fun t u h => by simp only [List.mem_cons, List.not_mem_nil, or_false] at h; rcases h with rfl | rfl | rfl <;> rfl⟩
theorem awayN_le (L : List Tir) : awayN L ≤ L.length := List.countP_le_length
def lackOf (s : Sto) (d : ByteArray) : Lck := ⟨d, ((goodL s d).length : Nat), (awayN (goodL s d) : Nat)⟩
def shortC (s : Sto) : List Lck := ((neededL s).filter (short s)).map (lackOf s)
theorem awayN_next {L : List Tir} {j : Nat} {x : Tir} (h : L[j]? = some x) : awayN (L.take (j + 1)) = awayN (L.take j) + (if x.away = true then 1 else 0) := by
 unfold awayN
 rw [List.take_add_one, h, List.countP_append]
 congr 1
 simp only [Option.toList_some, List.countP_cons, List.countP_nil]
 simp
theorem neededL_len (s : Sto) : (neededL s).length ≤ s.files.length := by
 unfold neededL
 rw [List.length_map]
 exact List.length_filter_le _ _
theorem needed_16 {s : Sto} (r : Right s) {d : ByteArray} (h : d ∈ neededL s) : d.size = 16 := by
 unfold neededL at h
 obtain ⟨f, hf, rfl⟩ := List.mem_map.1 h
 exact dig16 (r.dig f (List.mem_filter.1 hf).1).1
end St
end Go.Proofs.YthdiccdnggloiaaGreatDoor
namespace Go.Proofs.YthdiccdnggloiaaGreatDoor
namespace Dg
open Go.Lib
def digits : List UInt8 := [48, 49, 50, 51, 52, 53, 54, 55, 56, 57]
end Dg
end Go.Proofs.YthdiccdnggloiaaGreatDoor
namespace Go.Proofs.YthdiccdnggloiaaGreatDoor
open Go.RowKit
namespace St
end St
namespace St
theorem goodL_len (s : Sto) (d : ByteArray) : (goodL s d).length ≤ s.tiers.length := List.length_filter_le _ _
end St
end Go.Proofs.YthdiccdnggloiaaGreatDoor
namespace Go.Proofs.YthdiccdnggloiaaGreatDoor
open Go.RowKit Go.Sort Go.Shelf Go.Maps





theorem clnC_clip (a : Option Addr) (n ca : Nat) (w : World) (h : n ≤ ca) (hc : ca ≤ 9223372036854775807) : Calls Tryz.prog 138 #[.slice a n ca] w fun e w' => e = .returned (.slice a n n) ∧ w = w' := by
 go_enter Tryz.func138, Tryz.ntmps138
 go_wp2_with fail
 go_ret
 exact ⟨rfl, rfl⟩
theorem clnS_clip (a : Option Addr) (n ca : Nat) (w : World) (h : n ≤ ca) (hc : ca ≤ 9223372036854775807) : Calls Tryz.prog 104 #[.slice a n ca] w fun e w' => e = .returned (.slice a n n) ∧ w = w' := by
 go_enter Tryz.func104, Tryz.ntmps104
 go_wp2_with fail
 go_ret
 exact ⟨rfl, rfl⟩



theorem list_appS {ops : Array Oper} {rest : List Oper} {o : Oper} {a : Act} {V : World} {cs : Array Value} {Q : Exit → Act → World → Prop} (hgd : o.guard = none) (s x : Operand)
  (ho : o.op = .call { callee := .builtin .append, args := #[s, x], argTypes := #[25, 25] }) (base : Nat) (v : Value) (n : Nat) (xs : List Value) (hs : a.eval s = v) (hx : a.eval x = .slice (some ⟨V.heap.size, 0, none⟩) 1 1)
  (hown : V.ownsRow base 9 1 v n xs) (hn : n ≤ 1000000) (hb : base ≤ V.heap.size) (hcs : cs.toList.length = 1 * 1) (h1 : ∀ u ∈ cs.toList, u.oneCell' = true)
  (h : ∀ g cap w', w'.ownsRow base 9 1 (.slice (some ⟨g, 0, none⟩) (n + 1) cap) (n + 1) (xs ++ cs.toList) → (V.alloc (.cells cs 9)).grownBy w' v.ownBlock → wpList Tryz.prog ops Q rest (a.put o.dst (.slice (some ⟨g, 0, none⟩) (n + 1) cap)) w') :
  wpList Tryz.prog ops Q (o :: rest) a (V.alloc (.cells cs 9)) := by
 obtain ⟨i0, hi0, hi1, hi2, hi3⟩ := info_parts infoStS
 exact wpList_append_own2 _ hgd s x _ ho base 9 i0 (.string ByteArray.empty) 1 16 Tryz.underlying25 hi0 hi1 hi2 hi3 rfl (by decide) v n xs hs (hown.alloc _) ⟨V.heap.size, 0, none⟩ 1 1 cs.toList hx (by decide) hcs
  (World.news_of_block (cs := cs) (t := 9) (fr := (0, 0)) (Blk.new V cs 9)) h1 (by unfold maxLen; omega) (by omega) (by simp; omega) (fun g cap w' h1 h2 _ => h g cap w' h1 h2)
theorem away_is (L : List Tir) (sa : Option Addr) (sc : Nat) (w : World) (hr : RowE St.eT w sa L) (hl : L.length ≤ 1000000) : Calls Tryz.prog 172 #[.slice sa L.length sc] w fun e w' => e = .returned (.int .i64 (St.awayN L : Nat)) ∧ Below w.heap.size w w' := by
 have HR := Lib.hid hr
 obtain ⟨q, hq⟩ : ∃ q, St.awayN L = q := ⟨_, rfl⟩
 have HQ := Lib.hid hq
 obtain ⟨n, hn⟩ : ∃ n, L.length = n := ⟨_, rfl⟩
 have HN := Lib.hid hn
 rw [hn] at hl ⊢
 rw [hq]
 clear hr hn hq
 go_enter Tryz.func172, Tryz.ntmps172
 go_wp2_with fail
 go_loopg [3, 8] n (fun gk c i wr => ∃ j k : Nat, j ≤ n ∧ gk = n - j ∧ i = .int .i64 j ∧ c = .int .i64 (k : Int) ∧ k = St.awayN (L.take j) ∧ Below w.heap.size w wr)
 case atStart => exact ⟨0, 0, by omega, rfl, rfl, rfl, rfl, Below.refl _ _⟩
 case round =>
  obtain ⟨j, k, hj, rfl, rfl, rfl, hk, hB⟩ := hrel
  have HK := Lib.hid hk
  have hk2 : k ≤ 1000000 := by
   have h1 := St.awayN_le (L.take j)
   rw [List.length_take] at h1; omega
  clear hk
  by_cases hlt : j < n
  ·obtain ⟨x, hx⟩ : ∃ x, L[j]? = some x := ⟨_, List.getElem?_eq_getElem (by rw [HN.out]; exact hlt)⟩
   obtain ⟨b, off, ha, hb, hcell⟩ := (HR.out.keep hB) (by rw [HN.out]; omega)
   have c0 : wr.cell? ⟨b, off + j * 4, none⟩ = some (.string x.name) := hcell j x hx 0 (.string x.name) rfl
   have c1 : wr.cell? ⟨b, off + j * 4 + 1, none⟩ = some (.int .i64 x.room) := hcell j x hx 1 (.int .i64 x.room) rfl
   have c2 : wr.cell? ⟨b, off + j * 4 + 2, none⟩ = some (.int .i64 x.cost) := hcell j x hx 2 (.int .i64 x.cost) rfl
   have c3 : wr.cell? ⟨b, off + j * 4 + 3, none⟩ = some (.bool x.away) := hcell j x hx 3 (.bool x.away) rfl
   clear hcell
   have HNX := Lib.hid (St.awayN_next hx)
   obtain ⟨W3, hW3, hX3, hz3, hB3⟩ := box wr #[.string x.name, .int .i64 x.room, .int .i64 x.cost, .bool x.away] 46
   have HW3 := Lib.hid hW3
   have HAW := Lib.hid (below_up hB hB3)
   obtain ⟨e0, e1, e2, e3⟩ := hX3.four
   have hj0 : (0 : Int) ≤ (j : Int) := by omega
   have hj1 : (j : Int) < (n : Int) := by omega
   obtain ⟨bq, hbq⟩ : ∃ bq, x.away = bq := ⟨_, rfl⟩
   rw [hbq] at HNX e3
   rw [hbq] at c3 HW3
   clear hx hX3 hW3 hz3 hB3 hB
   rw [ha]
   cases bq
   ·go_upto_region 5 with fail
    rw [HW3.out]
    go_wp2_with fail
    rw [← ha]
    go_roundg (n - (j + 1))
    case rel => exact ⟨j + 1, k, by omega, rfl, by go_num, rfl, by rw [HNX.out, HK.out]; simp, HAW.out⟩
    case measure => omega
   ·go_upto_region 5 with fail
    rw [HW3.out]
    go_wp2_with fail
    rw [← ha]
    go_roundg (n - (j + 1))
    case rel => exact ⟨j + 1, k + 1, by omega, rfl, by go_num, by go_num, by rw [HNX.out, HK.out]; simp, HAW.out⟩
    case measure => omega
  ·obtain rfl : j = n := by omega
   go_wp2_with fail
   go_ret
   exact ⟨ret_int (by rw [HK.out, ← HQ.out, ← HN.out, List.take_length]), hB⟩
theorem lack_is (s : Sto) (a : StA) (mb : Nat) (d : ByteArray) (w : World) (hI : StIn w s a) (r : St.Right s) (hd : d.size = 16) :
  Calls Tryz.prog 100 #[.agg #[.int .i64 s.least, .int .i64 s.wait, .slice a.ta s.tiers.length a.tc, .slice a.fa s.files.length a.fc, .slice a.ca s.copies.length a.cc, .slice a.ha s.held.length a.hc, .slice a.ba s.bin.length a.bc, .map (some mb)], .string d] w fun e w' => e = .returned (.tuple #[.agg #[.string d, .int .i64 ((St.goodL s d).length : Nat), .int .i64 (St.awayN (St.goodL s d) : Nat)], .bool (St.short s d)]) ∧ Below w.heap.size w w' := by
 obtain ⟨W1, hW1, hP, hz1, hB1⟩ := box w #[.int .i64 s.least, .int .i64 s.wait, .slice a.ta s.tiers.length a.tc, .slice a.fa s.files.length a.fc, .slice a.ca s.copies.length a.cc, .slice a.ha s.held.length a.hc, .slice a.ba s.bin.length a.bc, .map (some mb)] 135
 obtain ⟨W2, hW2, hQ, hz2, hB2⟩ := box W1 #[.string ⟨#[]⟩, .int .i64 0, .int .i64 0] 70
 have HW1 := Lib.hid hW1; have HW2 := Lib.hid hW2
 have hP := hP.keep hB2
 rw [hz1] at hQ hz2
 have hB := below_up hB1 hB2
 have HB := Lib.hid hB
 obtain ⟨_, y1, y2, y3, y4, y5⟩ := St.sizes_iff.1 r.sizes
 have HGO := Lib.hid (fun V (hv : Below W2.heap.size W2 V) => good_is s a mb d V ((hI.keep hB).keep hv) r hd)
 unfold TirPost at HGO
 have HAT := Lib.hid (fun V (hv : Below W2.heap.size W2 V) => away_is s.tiers a.ta a.tc V ((hI.keep hB).keep hv).ti (by omega))
 have HCL : Hid (∀ V, Below W2.heap.size W2 V → V.cell? ⟨w.heap.size, 0, none⟩ = some (.int .i64 s.least) ∧ V.cell? ⟨w.heap.size, 1, none⟩ = some (.int .i64 s.wait) ∧ V.cell? ⟨w.heap.size, 2, none⟩ = some (.slice a.ta s.tiers.length a.tc) ∧ V.cell? ⟨w.heap.size, 3, none⟩ = some (.slice a.fa s.files.length a.fc) ∧ V.cell? ⟨w.heap.size, 4, none⟩ = some (.slice a.ca s.copies.length a.cc) ∧ V.cell? ⟨w.heap.size, 5, none⟩ = some (.slice a.ha s.held.length a.hc) ∧ V.cell? ⟨w.heap.size, 6, none⟩ = some (.slice a.ba s.bin.length a.bc) ∧ V.cell? ⟨w.heap.size, 7, none⟩ = some (.map (some mb))) := Lib.hid fun V hv => (hP.keep hv).eight
 have HQ := Lib.hid hQ; have HZ2 := Lib.hid hz2
 have hgl := St.goodL_len s d
 have hSH : St.short s d = (decide (((St.goodL s d).length : Int) < s.least) || (decide (St.awayN (St.goodL s d) = 0) && decide (0 < St.awayN s.tiers))) := rfl
 have hal := St.awayN_le (St.goodL s d)
 obtain ⟨mt, hmt⟩ : ∃ mt, St.awayN s.tiers = mt := ⟨_, rfl⟩
 obtain ⟨GL, hGL⟩ : ∃ GL, St.goodL s d = GL := ⟨_, rfl⟩
 rw [hGL] at HGO hSH hgl hal ⊢
 rw [hmt] at HAT hSH
 obtain ⟨mg, hmg⟩ : ∃ mg, GL.length = mg := ⟨_, rfl⟩
 have HMG := Lib.hid hmg
 rw [hmg] at HGO hSH hgl hal ⊢
 obtain ⟨ma, hma⟩ : ∃ ma, St.awayN GL = ma := ⟨_, rfl⟩
 have HMA := Lib.hid hma
 rw [hma] at hSH hal ⊢
 obtain ⟨lb, hlb⟩ : ∃ lb, decide ((mg : Int) < s.least) = lb := ⟨_, rfl⟩
 obtain ⟨zb, hzb⟩ : ∃ zb, decide (ma = 0) = zb := ⟨_, rfl⟩
 obtain ⟨tb, htb⟩ : ∃ tb, decide (0 < mt) = tb := ⟨_, rfl⟩
 obtain ⟨mi, hmi⟩ : ∃ mi : Int, (ma : Int) = mi := ⟨_, rfl⟩
 obtain ⟨ti, hti0⟩ : ∃ ti : Int, (mt : Int) = ti := ⟨_, rfl⟩
 have hzi : (mi == 0) = zb := by rw [← hzb, ← hmi]; cases ma <;> simp <;> omega
 have hti : decide ((0 : Int) < ti) = tb := by rw [← htb, ← hti0]; simp
 have HMI := Lib.hid hmi
 rw [hti0] at HAT
 rw [hmi]
 rw [hlb, hzb, htb] at hSH
 rw [hSH]
 clear hI r hW1 hW2 hP hQ hz1 hz2 hB1 hB2 hB hSH hmt hGL hmg hma hzb htb hmi hti0 y2 y3 y4 y5 hd
 go_enter Tryz.func100, Tryz.ntmps100
 go_upto_region 1 with fail
 rw [HW1.out, HW2.out]
 have hv : Below W2.heap.size W2 W2 := Below.refl _ _
 obtain ⟨m0, m1, m2, m3, m4, m5, m6, m7⟩ := HCL.out _ hv
 go_upto_region 2 with (go_at_call 103; (with_reducible refine (HGO.out _ hv).mono ?_); rintro e w3 ⟨g, cap, rfl, ho, hq⟩; have hv := below_up hv hq)
 have HRE : Hid (RowE St.eT w3 g GL) := Lib.hid (RowE.ofV (E := St.eT) (ca := cap) (by rw [HMG.out]; exact ho))
 have HAG := Lib.hid (away_is GL g cap w3 HRE.out (by rw [HMG.out]; omega))
 rw [HMG.out, HMA.out, HMI.out] at HAG
 clear ho hq
 go_upto_region 3 with (go_at_call 172; (with_reducible refine HAG.out.mono ?_); rintro e w4 ⟨rfl, hq⟩; have hv := below_up hv hq)
 obtain ⟨W5, hW5, hX5, hz5, hB5⟩ := box w4 #[.string d, .int .i64 (mg : Int), .int .i64 mi] 70
 have HW5 := Lib.hid hW5
 rw [HW5.out]
 have hne : ¬ w.heap.size + 1 = w4.heap.size := by have := hv.size; have := HZ2.out; omega
 have hv5 := below_up hv hB5
 have HV5 := Lib.hid hv5
 have hX := hX5.drew
 have HX := Lib.hid hX
 have hv := hv5.drew
 have hvz := hv5.size
 obtain ⟨x0, x1, x2⟩ := hX.three
 clear m0 m1 m2 m3 m4 m5 m6 m7
 obtain ⟨m0, m1, m2, m3, m4, m5, m6, m7⟩ := HCL.out _ hv
 obtain ⟨z0, z1, z2⟩ := (HQ.out.keep hv).three
 have zf := (HQ.out.keep hv).free
 clear hW5 hX5 hz5 hB5 hv5 hq hX
 cases lb
 ·cases zb
  ·refine wp_region_held_drew (S := fun w' => w'.cell? ⟨w.heap.size, 0, none⟩ = some (.int .i64 s.least) ∧ w'.cell? ⟨w.heap.size, 2, none⟩ = some (.slice a.ta s.tiers.length a.tc) ∧ w'.cell? ⟨w4.heap.size, 0, none⟩ = some (.string d) ∧ w'.cell? ⟨w4.heap.size, 1, none⟩ = some (.int .i64 (mg : Int)) ∧ w'.cell? ⟨w4.heap.size, 2, none⟩ = some (.int .i64 mi)) (by kernel_rfl) ⟨m0, m2, x0, x1, x2⟩ (fun hHeld => ?_)
   generalize W5.drew = w5 at *
   refine wpAnyH_take (i := 0) (v := ?_) rfl (by kernel_rfl) (by kernel_rfl) (by kernel_rfl) (fun _ _ _ h => h) (Or.inl ⟨by kernel_rfl, ?_⟩) (by assumption) ?_
   rotate_left
   ·(intro w hSw; (try dsimp only at hSw); go_simp; try (with_reducible rfl))
   try go_frame
   refine wpAnyH_take (i := 1) (v := ?_) rfl (by kernel_rfl) (by kernel_rfl) (by kernel_rfl) (fun _ _ _ h => h) (Or.inl ⟨by kernel_rfl, ?_⟩) (by assumption) ?_
   rotate_left
   ·(intro w hSw; (try dsimp only at hSw); go_simp; try (with_reducible rfl))
   try go_frame
   refine wpAnyH_take (i := 2) (v := ?_) rfl (by kernel_rfl) (by kernel_rfl) (by kernel_rfl) (fun _ _ _ h => h) (Or.inl ⟨by kernel_rfl, ?_⟩) (by assumption) ?_
   rotate_left
   ·(intro w hSw; (try dsimp only at hSw); go_simp; try (with_reducible rfl))
   try go_frame
   refine wpAnyH_take (i := 3) (v := ?_) rfl (by kernel_rfl) (by kernel_rfl) (by kernel_rfl) (fun _ _ _ h => h) (Or.inl ⟨by kernel_rfl, ?_⟩) (by assumption) ?_
   rotate_left
   ·(intro w hSw; (try dsimp only at hSw); go_simp; try (with_reducible rfl))
   try go_frame
   refine wpAnyH_take (i := 4) (v := ?_) rfl (by kernel_rfl) (by kernel_rfl) (by kernel_rfl) (fun _ _ _ h => h) (Or.inl ⟨by kernel_rfl, ?_⟩) (by assumption) ?_
   rotate_left
   ·(intro w hSw; (try dsimp only at hSw); go_simp; try (with_reducible rfl))
   try go_frame
   refine wpAnyH_take (i := 5) (v := ?_) rfl (by kernel_rfl) (by kernel_rfl) (by kernel_rfl) (fun _ _ _ h => h) (Or.inl ⟨by kernel_rfl, ?_⟩) (by assumption) ?_
   rotate_left
   ·(intro w hSw; (try dsimp only at hSw); go_simp; try (with_reducible rfl))
   try go_frame
   refine wpAnyH_take (i := 6) (v := ?_) rfl (by kernel_rfl) (by kernel_rfl) (by kernel_rfl) (fun _ _ _ h => h) (Or.inl ⟨by kernel_rfl, ?_⟩) (by assumption) ?_
   rotate_left
   ·(intro w hSw; (try dsimp only at hSw); go_simp; try (with_reducible rfl))
   try go_frame
   refine wpAnyH_take (i := 7) (v := ?_) rfl (by kernel_rfl) (by kernel_rfl) (by kernel_rfl) (fun _ _ _ h => h) (Or.inl ⟨by kernel_rfl, ?_⟩) (by assumption) ?_
   rotate_left
   ·(intro w hSw; (try dsimp only at hSw); go_simp; try (with_reducible rfl))
   try go_frame
   refine wpAnyH_take (i := 8) (v := ?_) rfl (by kernel_rfl) (by kernel_rfl) (by kernel_rfl) (fun _ _ _ h => h) (Or.inl ⟨by kernel_rfl, ?_⟩) (by assumption) ?_
   rotate_left
   ·(intro w hSw; (try dsimp only at hSw); go_simp; try (with_reducible rfl))
   try go_frame
   refine wpAnyH_take (i := 9) (v := ?_) rfl (by kernel_rfl) (by kernel_rfl) (by kernel_rfl) (fun _ _ _ h => h) (Or.inl ⟨by kernel_rfl, ?_⟩) (by assumption) ?_
   rotate_left
   ·(intro w hSw; (try dsimp only at hSw); go_simp; try (with_reducible rfl))
   try go_frame
   refine wpAnyH_take (i := 10) (v := ?_) rfl (by kernel_rfl) (by kernel_rfl) (by kernel_rfl) (fun _ _ _ h => h) (Or.inl ⟨by kernel_rfl, ?_⟩) (by assumption) ?_
   rotate_left
   ·(intro w hSw; (try dsimp only at hSw); go_simp; try (with_reducible rfl))
   try go_frame
   refine wpAnyH_take (i := 11) (v := ?_) rfl (by kernel_rfl) (by kernel_rfl) (by kernel_rfl) (fun _ _ _ h => h) (Or.inl ⟨by kernel_rfl, ?_⟩) (by assumption) ?_
   rotate_left
   ·(intro w hSw; (try dsimp only at hSw); go_simp; try (with_reducible rfl))
   try go_frame
   refine wpAnyH_take (i := 12) (v := ?_) rfl (by kernel_rfl) (by kernel_rfl) (by kernel_rfl) (fun _ _ _ h => h) (Or.inr ⟨by kernel_rfl, ?_⟩) (by assumption) ?_
   rotate_left
   ·rfl
   try go_frame
   refine wpAnyH_take (i := 13) (v := ?_) rfl (by kernel_rfl) (by kernel_rfl) (by kernel_rfl) (fun _ _ _ h => h) (Or.inr ⟨by kernel_rfl, ?_⟩) (by assumption) ?_
   rotate_left
   ·rfl
   try go_frame
   refine wpAnyH_take (i := 14) (v := ?_) rfl (by kernel_rfl) (by kernel_rfl) (by kernel_rfl) (fun _ _ _ h => h) (Or.inr ⟨by kernel_rfl, ?_⟩) (by assumption) ?_
   rotate_left
   ·rfl
   try go_frame
   refine wpAnyH_take (i := 15) (v := ?_) rfl (by kernel_rfl) (by kernel_rfl) (by kernel_rfl) (fun _ _ _ h => h) (Or.inr ⟨by kernel_rfl, ?_⟩) (by assumption) ?_
   rotate_left
   ·rfl
   try go_frame
   refine wpAnyH_take (i := 16) (v := ?_) rfl (by kernel_rfl) (by kernel_rfl) (by kernel_rfl) (fun _ _ _ h => h) (Or.inr ⟨by kernel_rfl, ?_⟩) (by assumption) ?_
   rotate_left
   ·rfl
   try go_frame
   refine wpAnyH_take (i := 17) (v := ?_) rfl (by kernel_rfl) (by kernel_rfl) (by kernel_rfl) (fun _ _ _ h => h) (Or.inl ⟨by kernel_rfl, ?_⟩) (by assumption) ?_
   rotate_left
   ·(intro w hSw; (try dsimp only at hSw); go_simp; try (with_reducible rfl))
   try go_frame
   refine wpAnyH_take (i := 18) (v := ?_) rfl (by kernel_rfl) (by kernel_rfl) (by kernel_rfl) (fun _ _ _ h => h) (Or.inl ⟨by kernel_rfl, ?_⟩) (by assumption) ?_
   rotate_left
   ·(intro w hSw; (try dsimp only at hSw); go_simp; try (with_reducible rfl))
   try go_frame
   refine wpAnyH_ready (rs := [19]) (by kernel_rfl) (by simp) ?_
   refine AllReadyH.cons rfl (fun K hK => ?_) AllReadyH.nil
   go_simp
   refine hK.out _ _ (by refine ⟨?_, ?_, ?_, ?_, ?_⟩ <;> go_keep) (fun hHeld => ?_)
   clear hK K
   try go_frame
   refine wpAnyH_ready (rs := [20]) (by kernel_rfl) (by simp) ?_
   refine AllReadyH.cons rfl (fun K hK => ?_) AllReadyH.nil
   go_simp
   refine hK.out _ _ (hHeld) (fun hHeld => ?_)
   clear hK K
   try go_frame
   refine wpAnyH_done (by kernel_rfl) ?_ _
   have hZ := ((((HQ.out.keep hv).set 0 (.string d)).set 1 (.int .i64 (mg : Int))).set 2 (.int .i64 mi))
   have hBz := ((((below_up HB.out hv).setCell (p := ⟨w.heap.size + 1, 0, none⟩) (by simp) (.string d)).setCell (p := ⟨w.heap.size + 1, 1, none⟩) (by simp) (.int .i64 (mg : Int))).setCell (p := ⟨w.heap.size + 1, 2, none⟩) (by simp) (.int .i64 mi))
   obtain ⟨V, hV⟩ : ∃ V, (((w5.setCell ⟨w.heap.size + 1, 0, none⟩ (.string d)).setCell ⟨w.heap.size + 1, 1, none⟩ (.int .i64 (mg : Int))).setCell ⟨w.heap.size + 1, 2, none⟩ (.int .i64 mi)) = V := ⟨_, rfl⟩
   rw [hV] at hZ hBz ⊢
   have hZ : Blk V (w.heap.size + 1) #[.string d, .int .i64 (mg : Int), .int .i64 mi] 70 := hZ
   obtain ⟨g0, g1, g2⟩ := hZ.three
   go_wp2_with fail
   refine bodyPost_ret (v := .tuple #[.agg #[.string d, .int .i64 (mg : Int), .int .i64 mi], .bool _]) (by simp [results, Tryz.results100, go_sem, g0, g1, g2]; rfl) rfl ⟨by simp, hBz⟩
  ·cases tb
   ·refine wp_region_held_drew (S := fun w' => w'.cell? ⟨w.heap.size, 0, none⟩ = some (.int .i64 s.least) ∧ w'.cell? ⟨w.heap.size, 2, none⟩ = some (.slice a.ta s.tiers.length a.tc) ∧ w'.cell? ⟨w4.heap.size, 0, none⟩ = some (.string d) ∧ w'.cell? ⟨w4.heap.size, 1, none⟩ = some (.int .i64 (mg : Int)) ∧ w'.cell? ⟨w4.heap.size, 2, none⟩ = some (.int .i64 mi)) (by kernel_rfl) ⟨m0, m2, x0, x1, x2⟩ (fun hHeld => ?_)
    generalize W5.drew = w5 at *
    refine wpAnyH_take (i := 0) (v := ?_) rfl (by kernel_rfl) (by kernel_rfl) (by kernel_rfl) (fun _ _ _ h => h) (Or.inl ⟨by kernel_rfl, ?_⟩) (by assumption) ?_
    rotate_left
    ·(intro w hSw; (try dsimp only at hSw); go_simp; try (with_reducible rfl))
    try go_frame
    refine wpAnyH_take (i := 1) (v := ?_) rfl (by kernel_rfl) (by kernel_rfl) (by kernel_rfl) (fun _ _ _ h => h) (Or.inl ⟨by kernel_rfl, ?_⟩) (by assumption) ?_
    rotate_left
    ·(intro w hSw; (try dsimp only at hSw); go_simp; try (with_reducible rfl))
    try go_frame
    refine wpAnyH_take (i := 2) (v := ?_) rfl (by kernel_rfl) (by kernel_rfl) (by kernel_rfl) (fun _ _ _ h => h) (Or.inl ⟨by kernel_rfl, ?_⟩) (by assumption) ?_
    rotate_left
    ·(intro w hSw; (try dsimp only at hSw); go_simp; try (with_reducible rfl))
    try go_frame
    refine wpAnyH_take (i := 3) (v := ?_) rfl (by kernel_rfl) (by kernel_rfl) (by kernel_rfl) (fun _ _ _ h => h) (Or.inl ⟨by kernel_rfl, ?_⟩) (by assumption) ?_
    rotate_left
    ·(intro w hSw; (try dsimp only at hSw); go_simp; try (with_reducible rfl))
    try go_frame
    refine wpAnyH_take (i := 4) (v := ?_) rfl (by kernel_rfl) (by kernel_rfl) (by kernel_rfl) (fun _ _ _ h => h) (Or.inl ⟨by kernel_rfl, ?_⟩) (by assumption) ?_
    rotate_left
    ·(intro w hSw; (try dsimp only at hSw); go_simp; try (with_reducible rfl))
    try go_frame
    refine wpAnyH_take (i := 5) (v := ?_) rfl (by kernel_rfl) (by kernel_rfl) (by kernel_rfl) (fun _ _ _ h => h) (Or.inl ⟨by kernel_rfl, ?_⟩) (by assumption) ?_
    rotate_left
    ·(intro w hSw; (try dsimp only at hSw); go_simp; try (with_reducible rfl))
    try go_frame
    refine wpAnyH_take (i := 6) (v := ?_) rfl (by kernel_rfl) (by kernel_rfl) (by kernel_rfl) (fun _ _ _ h => h) (Or.inl ⟨by kernel_rfl, ?_⟩) (by assumption) ?_
    rotate_left
    ·(intro w hSw; (try dsimp only at hSw); go_simp; try (with_reducible rfl))
    try go_frame
    refine wpAnyH_take (i := 7) (v := ?_) rfl (by kernel_rfl) (by kernel_rfl) (by kernel_rfl) (fun _ _ _ h => h) (Or.inl ⟨by kernel_rfl, ?_⟩) (by assumption) ?_
    rotate_left
    ·(intro w hSw; (try dsimp only at hSw); go_simp; try (with_reducible rfl))
    try go_frame
    refine wpAnyH_take (i := 8) (v := ?_) rfl (by kernel_rfl) (by kernel_rfl) (by kernel_rfl) (fun _ _ _ h => h) (Or.inl ⟨by kernel_rfl, ?_⟩) (by assumption) ?_
    rotate_left
    ·(intro w hSw; (try dsimp only at hSw); go_simp; try (with_reducible rfl))
    try go_frame
    refine wpAnyH_take (i := 9) (v := ?_) rfl (by kernel_rfl) (by kernel_rfl) (by kernel_rfl) (fun _ _ _ h => h) (Or.inl ⟨by kernel_rfl, ?_⟩) (by assumption) ?_
    rotate_left
    ·(intro w hSw; (try dsimp only at hSw); go_simp; try (with_reducible rfl))
    try go_frame
    refine wpAnyH_take (i := 10) (v := ?_) rfl (by kernel_rfl) (by kernel_rfl) (by kernel_rfl) (fun _ _ _ h => h) (Or.inl ⟨by kernel_rfl, ?_⟩) (by assumption) ?_
    rotate_left
    ·(intro w hSw; (try dsimp only at hSw); go_simp; try (with_reducible rfl))
    try go_frame
    refine wpAnyH_take (i := 11) (v := ?_) rfl (by kernel_rfl) (by kernel_rfl) (by kernel_rfl) (fun _ _ _ h => h) (Or.inl ⟨by kernel_rfl, ?_⟩) (by assumption) ?_
    rotate_left
    ·(intro w hSw; (try dsimp only at hSw); go_simp; try (with_reducible rfl))
    try go_frame
    refine wpAnyH_take (i := 12) (v := ?_) rfl (by kernel_rfl) (by kernel_rfl) (by kernel_rfl) (fun _ _ _ h => h) (Or.inl ⟨by kernel_rfl, ?_⟩) (by assumption) ?_
    rotate_left
    ·(intro w hSw; (try dsimp only at hSw); go_simp; try (with_reducible rfl))
    try go_frame
    refine wpAnyH_take (i := 13) (v := ?_) rfl (by kernel_rfl) (by kernel_rfl) (by kernel_rfl) (fun _ _ _ h => h) (Or.inl ⟨by kernel_rfl, ?_⟩) (by assumption) ?_
    rotate_left
    ·(intro w hSw; (try dsimp only at hSw); go_simp; try (with_reducible rfl))
    try go_frame
    refine wpAnyH_take (i := 14) (v := ?_) rfl (by kernel_rfl) (by kernel_rfl) (by kernel_rfl) (fun _ _ _ h => h) (Or.inl ⟨by kernel_rfl, ?_⟩) (by assumption) ?_
    rotate_left
    ·(intro w hSw; (try dsimp only at hSw); go_simp; try (with_reducible rfl))
    try go_frame
    refine wpAnyH_ready (rs := [15]) (by kernel_rfl) (by simp) ?_
    refine AllReadyH.cons rfl (fun K hK => ?_) AllReadyH.nil
    go_simp
    refine (HAT.out _ hv).mono ?_
    rintro e w6 ⟨rfl, hq⟩
    have hv := below_up hv hq
    clear m0 m1 m2 m3 m4 m5 m6 m7 z0 z1 z2 zf x0 x1 x2
    obtain ⟨m0, m1, m2, m3, m4, m5, m6, m7⟩ := HCL.out _ hv
    obtain ⟨z0, z1, z2⟩ := (HQ.out.keep hv).three
    have zf := (HQ.out.keep hv).free
    obtain ⟨x0, x1, x2⟩ := (HX.out.keep hq).three
    refine hK.out _ _ (⟨m0, m2, x0, x1, x2⟩) (fun hHeld => ?_)
    clear hK K
    try go_frame
    refine wpAnyH_take (i := 16) (v := ?_) rfl (by kernel_rfl) (by kernel_rfl) (by kernel_rfl) (fun _ _ _ h => h) (Or.inl ⟨by kernel_rfl, ?_⟩) (by assumption) ?_
    rotate_left
    ·(intro w hSw; (try dsimp only at hSw); go_simp; try (with_reducible rfl))
    try go_frame
    refine wpAnyH_take (i := 17) (v := ?_) rfl (by kernel_rfl) (by kernel_rfl) (by kernel_rfl) (fun _ _ _ h => h) (Or.inl ⟨by kernel_rfl, ?_⟩) (by assumption) ?_
    rotate_left
    ·(intro w hSw; (try dsimp only at hSw); go_simp; try (with_reducible rfl))
    try go_frame
    refine wpAnyH_take (i := 18) (v := ?_) rfl (by kernel_rfl) (by kernel_rfl) (by kernel_rfl) (fun _ _ _ h => h) (Or.inl ⟨by kernel_rfl, ?_⟩) (by assumption) ?_
    rotate_left
    ·(intro w hSw; (try dsimp only at hSw); go_simp; try (with_reducible rfl))
    try go_frame
    refine wpAnyH_ready (rs := [19]) (by kernel_rfl) (by simp) ?_
    refine AllReadyH.cons rfl (fun K hK => ?_) AllReadyH.nil
    go_simp
    refine hK.out _ _ (by refine ⟨?_, ?_, ?_, ?_, ?_⟩ <;> go_keep) (fun hHeld => ?_)
    clear hK K
    try go_frame
    refine wpAnyH_ready (rs := [20]) (by kernel_rfl) (by simp) ?_
    refine AllReadyH.cons rfl (fun K hK => ?_) AllReadyH.nil
    go_simp
    refine hK.out _ _ (hHeld) (fun hHeld => ?_)
    clear hK K
    try go_frame
    refine wpAnyH_done (by kernel_rfl) ?_ _
    have hZ := ((((HQ.out.keep hv).set 0 (.string d)).set 1 (.int .i64 (mg : Int))).set 2 (.int .i64 mi))
    have hBz := ((((below_up HB.out hv).setCell (p := ⟨w.heap.size + 1, 0, none⟩) (by simp) (.string d)).setCell (p := ⟨w.heap.size + 1, 1, none⟩) (by simp) (.int .i64 (mg : Int))).setCell (p := ⟨w.heap.size + 1, 2, none⟩) (by simp) (.int .i64 mi))
    obtain ⟨V, hV⟩ : ∃ V, (((w6.setCell ⟨w.heap.size + 1, 0, none⟩ (.string d)).setCell ⟨w.heap.size + 1, 1, none⟩ (.int .i64 (mg : Int))).setCell ⟨w.heap.size + 1, 2, none⟩ (.int .i64 mi)) = V := ⟨_, rfl⟩
    rw [hV] at hZ hBz ⊢
    have hZ : Blk V (w.heap.size + 1) #[.string d, .int .i64 (mg : Int), .int .i64 mi] 70 := hZ
    obtain ⟨g0, g1, g2⟩ := hZ.three
    go_wp2_with fail
    refine bodyPost_ret (v := .tuple #[.agg #[.string d, .int .i64 (mg : Int), .int .i64 mi], .bool _]) (by simp [results, Tryz.results100, go_sem, g0, g1, g2]; rfl) rfl ⟨by simp, hBz⟩
   ·refine wp_region_held_drew (S := fun w' => w'.cell? ⟨w.heap.size, 0, none⟩ = some (.int .i64 s.least) ∧ w'.cell? ⟨w.heap.size, 2, none⟩ = some (.slice a.ta s.tiers.length a.tc) ∧ w'.cell? ⟨w4.heap.size, 0, none⟩ = some (.string d) ∧ w'.cell? ⟨w4.heap.size, 1, none⟩ = some (.int .i64 (mg : Int)) ∧ w'.cell? ⟨w4.heap.size, 2, none⟩ = some (.int .i64 mi)) (by kernel_rfl) ⟨m0, m2, x0, x1, x2⟩ (fun hHeld => ?_)
    generalize W5.drew = w5 at *
    refine wpAnyH_take (i := 0) (v := ?_) rfl (by kernel_rfl) (by kernel_rfl) (by kernel_rfl) (fun _ _ _ h => h) (Or.inl ⟨by kernel_rfl, ?_⟩) (by assumption) ?_
    rotate_left
    ·(intro w hSw; (try dsimp only at hSw); go_simp; try (with_reducible rfl))
    try go_frame
    refine wpAnyH_take (i := 1) (v := ?_) rfl (by kernel_rfl) (by kernel_rfl) (by kernel_rfl) (fun _ _ _ h => h) (Or.inl ⟨by kernel_rfl, ?_⟩) (by assumption) ?_
    rotate_left
    ·(intro w hSw; (try dsimp only at hSw); go_simp; try (with_reducible rfl))
    try go_frame
    refine wpAnyH_take (i := 2) (v := ?_) rfl (by kernel_rfl) (by kernel_rfl) (by kernel_rfl) (fun _ _ _ h => h) (Or.inl ⟨by kernel_rfl, ?_⟩) (by assumption) ?_
    rotate_left
    ·(intro w hSw; (try dsimp only at hSw); go_simp; try (with_reducible rfl))
    try go_frame
    refine wpAnyH_take (i := 3) (v := ?_) rfl (by kernel_rfl) (by kernel_rfl) (by kernel_rfl) (fun _ _ _ h => h) (Or.inl ⟨by kernel_rfl, ?_⟩) (by assumption) ?_
    rotate_left
    ·(intro w hSw; (try dsimp only at hSw); go_simp; try (with_reducible rfl))
    try go_frame
    refine wpAnyH_take (i := 4) (v := ?_) rfl (by kernel_rfl) (by kernel_rfl) (by kernel_rfl) (fun _ _ _ h => h) (Or.inl ⟨by kernel_rfl, ?_⟩) (by assumption) ?_
    rotate_left
    ·(intro w hSw; (try dsimp only at hSw); go_simp; try (with_reducible rfl))
    try go_frame
    refine wpAnyH_take (i := 5) (v := ?_) rfl (by kernel_rfl) (by kernel_rfl) (by kernel_rfl) (fun _ _ _ h => h) (Or.inl ⟨by kernel_rfl, ?_⟩) (by assumption) ?_
    rotate_left
    ·(intro w hSw; (try dsimp only at hSw); go_simp; try (with_reducible rfl))
    try go_frame
    refine wpAnyH_take (i := 6) (v := ?_) rfl (by kernel_rfl) (by kernel_rfl) (by kernel_rfl) (fun _ _ _ h => h) (Or.inl ⟨by kernel_rfl, ?_⟩) (by assumption) ?_
    rotate_left
    ·(intro w hSw; (try dsimp only at hSw); go_simp; try (with_reducible rfl))
    try go_frame
    refine wpAnyH_take (i := 7) (v := ?_) rfl (by kernel_rfl) (by kernel_rfl) (by kernel_rfl) (fun _ _ _ h => h) (Or.inl ⟨by kernel_rfl, ?_⟩) (by assumption) ?_
    rotate_left
    ·(intro w hSw; (try dsimp only at hSw); go_simp; try (with_reducible rfl))
    try go_frame
    refine wpAnyH_take (i := 8) (v := ?_) rfl (by kernel_rfl) (by kernel_rfl) (by kernel_rfl) (fun _ _ _ h => h) (Or.inl ⟨by kernel_rfl, ?_⟩) (by assumption) ?_
    rotate_left
    ·(intro w hSw; (try dsimp only at hSw); go_simp; try (with_reducible rfl))
    try go_frame
    refine wpAnyH_take (i := 9) (v := ?_) rfl (by kernel_rfl) (by kernel_rfl) (by kernel_rfl) (fun _ _ _ h => h) (Or.inl ⟨by kernel_rfl, ?_⟩) (by assumption) ?_
    rotate_left
    ·(intro w hSw; (try dsimp only at hSw); go_simp; try (with_reducible rfl))
    try go_frame
    refine wpAnyH_take (i := 10) (v := ?_) rfl (by kernel_rfl) (by kernel_rfl) (by kernel_rfl) (fun _ _ _ h => h) (Or.inl ⟨by kernel_rfl, ?_⟩) (by assumption) ?_
    rotate_left
    ·(intro w hSw; (try dsimp only at hSw); go_simp; try (with_reducible rfl))
    try go_frame
    refine wpAnyH_take (i := 11) (v := ?_) rfl (by kernel_rfl) (by kernel_rfl) (by kernel_rfl) (fun _ _ _ h => h) (Or.inl ⟨by kernel_rfl, ?_⟩) (by assumption) ?_
    rotate_left
    ·(intro w hSw; (try dsimp only at hSw); go_simp; try (with_reducible rfl))
    try go_frame
    refine wpAnyH_take (i := 12) (v := ?_) rfl (by kernel_rfl) (by kernel_rfl) (by kernel_rfl) (fun _ _ _ h => h) (Or.inl ⟨by kernel_rfl, ?_⟩) (by assumption) ?_
    rotate_left
    ·(intro w hSw; (try dsimp only at hSw); go_simp; try (with_reducible rfl))
    try go_frame
    refine wpAnyH_take (i := 13) (v := ?_) rfl (by kernel_rfl) (by kernel_rfl) (by kernel_rfl) (fun _ _ _ h => h) (Or.inl ⟨by kernel_rfl, ?_⟩) (by assumption) ?_
    rotate_left
    ·(intro w hSw; (try dsimp only at hSw); go_simp; try (with_reducible rfl))
    try go_frame
    refine wpAnyH_take (i := 14) (v := ?_) rfl (by kernel_rfl) (by kernel_rfl) (by kernel_rfl) (fun _ _ _ h => h) (Or.inl ⟨by kernel_rfl, ?_⟩) (by assumption) ?_
    rotate_left
    ·(intro w hSw; (try dsimp only at hSw); go_simp; try (with_reducible rfl))
    try go_frame
    refine wpAnyH_ready (rs := [15]) (by kernel_rfl) (by simp) ?_
    refine AllReadyH.cons rfl (fun K hK => ?_) AllReadyH.nil
    go_simp
    refine (HAT.out _ hv).mono ?_
    rintro e w6 ⟨rfl, hq⟩
    have hv := below_up hv hq
    clear m0 m1 m2 m3 m4 m5 m6 m7 z0 z1 z2 zf x0 x1 x2
    obtain ⟨m0, m1, m2, m3, m4, m5, m6, m7⟩ := HCL.out _ hv
    obtain ⟨z0, z1, z2⟩ := (HQ.out.keep hv).three
    have zf := (HQ.out.keep hv).free
    obtain ⟨x0, x1, x2⟩ := (HX.out.keep hq).three
    refine hK.out _ _ (⟨m0, m2, x0, x1, x2⟩) (fun hHeld => ?_)
    clear hK K
    try go_frame
    refine wpAnyH_take (i := 16) (v := ?_) rfl (by kernel_rfl) (by kernel_rfl) (by kernel_rfl) (fun _ _ _ h => h) (Or.inl ⟨by kernel_rfl, ?_⟩) (by assumption) ?_
    rotate_left
    ·(intro w hSw; (try dsimp only at hSw); go_simp; try (with_reducible rfl))
    try go_frame
    refine wpAnyH_take (i := 17) (v := ?_) rfl (by kernel_rfl) (by kernel_rfl) (by kernel_rfl) (fun _ _ _ h => h) (Or.inl ⟨by kernel_rfl, ?_⟩) (by assumption) ?_
    rotate_left
    ·(intro w hSw; (try dsimp only at hSw); go_simp; try (with_reducible rfl))
    try go_frame
    refine wpAnyH_take (i := 18) (v := ?_) rfl (by kernel_rfl) (by kernel_rfl) (by kernel_rfl) (fun _ _ _ h => h) (Or.inl ⟨by kernel_rfl, ?_⟩) (by assumption) ?_
    rotate_left
    ·(intro w hSw; (try dsimp only at hSw); go_simp; try (with_reducible rfl))
    try go_frame
    refine wpAnyH_ready (rs := [19]) (by kernel_rfl) (by simp) ?_
    refine AllReadyH.cons rfl (fun K hK => ?_) AllReadyH.nil
    go_simp
    refine hK.out _ _ (by refine ⟨?_, ?_, ?_, ?_, ?_⟩ <;> go_keep) (fun hHeld => ?_)
    clear hK K
    try go_frame
    refine wpAnyH_ready (rs := [20]) (by kernel_rfl) (by simp) ?_
    refine AllReadyH.cons rfl (fun K hK => ?_) AllReadyH.nil
    go_simp
    refine hK.out _ _ (hHeld) (fun hHeld => ?_)
    clear hK K
    try go_frame
    refine wpAnyH_done (by kernel_rfl) ?_ _
    have hZ := ((((HQ.out.keep hv).set 0 (.string d)).set 1 (.int .i64 (mg : Int))).set 2 (.int .i64 mi))
    have hBz := ((((below_up HB.out hv).setCell (p := ⟨w.heap.size + 1, 0, none⟩) (by simp) (.string d)).setCell (p := ⟨w.heap.size + 1, 1, none⟩) (by simp) (.int .i64 (mg : Int))).setCell (p := ⟨w.heap.size + 1, 2, none⟩) (by simp) (.int .i64 mi))
    obtain ⟨V, hV⟩ : ∃ V, (((w6.setCell ⟨w.heap.size + 1, 0, none⟩ (.string d)).setCell ⟨w.heap.size + 1, 1, none⟩ (.int .i64 (mg : Int))).setCell ⟨w.heap.size + 1, 2, none⟩ (.int .i64 mi)) = V := ⟨_, rfl⟩
    rw [hV] at hZ hBz ⊢
    have hZ : Blk V (w.heap.size + 1) #[.string d, .int .i64 (mg : Int), .int .i64 mi] 70 := hZ
    obtain ⟨g0, g1, g2⟩ := hZ.three
    go_wp2_with fail
    refine bodyPost_ret (v := .tuple #[.agg #[.string d, .int .i64 (mg : Int), .int .i64 mi], .bool _]) (by simp [results, Tryz.results100, go_sem, g0, g1, g2]; rfl) rfl ⟨by simp, hBz⟩
 ·refine wp_region_held_drew (S := fun w' => w'.cell? ⟨w.heap.size, 0, none⟩ = some (.int .i64 s.least) ∧ w'.cell? ⟨w.heap.size, 2, none⟩ = some (.slice a.ta s.tiers.length a.tc) ∧ w'.cell? ⟨w4.heap.size, 0, none⟩ = some (.string d) ∧ w'.cell? ⟨w4.heap.size, 1, none⟩ = some (.int .i64 (mg : Int)) ∧ w'.cell? ⟨w4.heap.size, 2, none⟩ = some (.int .i64 mi)) (by kernel_rfl) ⟨m0, m2, x0, x1, x2⟩ (fun hHeld => ?_)
  generalize W5.drew = w5 at *
  refine wpAnyH_take (i := 0) (v := ?_) rfl (by kernel_rfl) (by kernel_rfl) (by kernel_rfl) (fun _ _ _ h => h) (Or.inl ⟨by kernel_rfl, ?_⟩) (by assumption) ?_
  rotate_left
  ·(intro w hSw; (try dsimp only at hSw); go_simp; try (with_reducible rfl))
  try go_frame
  refine wpAnyH_take (i := 1) (v := ?_) rfl (by kernel_rfl) (by kernel_rfl) (by kernel_rfl) (fun _ _ _ h => h) (Or.inl ⟨by kernel_rfl, ?_⟩) (by assumption) ?_
  rotate_left
  ·(intro w hSw; (try dsimp only at hSw); go_simp; try (with_reducible rfl))
  try go_frame
  refine wpAnyH_take (i := 2) (v := ?_) rfl (by kernel_rfl) (by kernel_rfl) (by kernel_rfl) (fun _ _ _ h => h) (Or.inl ⟨by kernel_rfl, ?_⟩) (by assumption) ?_
  rotate_left
  ·(intro w hSw; (try dsimp only at hSw); go_simp; try (with_reducible rfl))
  try go_frame
  refine wpAnyH_take (i := 3) (v := ?_) rfl (by kernel_rfl) (by kernel_rfl) (by kernel_rfl) (fun _ _ _ h => h) (Or.inl ⟨by kernel_rfl, ?_⟩) (by assumption) ?_
  rotate_left
  ·(intro w hSw; (try dsimp only at hSw); go_simp; try (with_reducible rfl))
  try go_frame
  refine wpAnyH_take (i := 4) (v := ?_) rfl (by kernel_rfl) (by kernel_rfl) (by kernel_rfl) (fun _ _ _ h => h) (Or.inl ⟨by kernel_rfl, ?_⟩) (by assumption) ?_
  rotate_left
  ·(intro w hSw; (try dsimp only at hSw); go_simp; try (with_reducible rfl))
  try go_frame
  refine wpAnyH_take (i := 5) (v := ?_) rfl (by kernel_rfl) (by kernel_rfl) (by kernel_rfl) (fun _ _ _ h => h) (Or.inl ⟨by kernel_rfl, ?_⟩) (by assumption) ?_
  rotate_left
  ·(intro w hSw; (try dsimp only at hSw); go_simp; try (with_reducible rfl))
  try go_frame
  refine wpAnyH_take (i := 6) (v := ?_) rfl (by kernel_rfl) (by kernel_rfl) (by kernel_rfl) (fun _ _ _ h => h) (Or.inl ⟨by kernel_rfl, ?_⟩) (by assumption) ?_
  rotate_left
  ·(intro w hSw; (try dsimp only at hSw); go_simp; try (with_reducible rfl))
  try go_frame
  refine wpAnyH_take (i := 7) (v := ?_) rfl (by kernel_rfl) (by kernel_rfl) (by kernel_rfl) (fun _ _ _ h => h) (Or.inl ⟨by kernel_rfl, ?_⟩) (by assumption) ?_
  rotate_left
  ·(intro w hSw; (try dsimp only at hSw); go_simp; try (with_reducible rfl))
  try go_frame
  refine wpAnyH_take (i := 8) (v := ?_) rfl (by kernel_rfl) (by kernel_rfl) (by kernel_rfl) (fun _ _ _ h => h) (Or.inr ⟨by kernel_rfl, ?_⟩) (by assumption) ?_
  rotate_left
  ·rfl
  try go_frame
  refine wpAnyH_take (i := 9) (v := ?_) rfl (by kernel_rfl) (by kernel_rfl) (by kernel_rfl) (fun _ _ _ h => h) (Or.inr ⟨by kernel_rfl, ?_⟩) (by assumption) ?_
  rotate_left
  ·rfl
  try go_frame
  refine wpAnyH_take (i := 10) (v := ?_) rfl (by kernel_rfl) (by kernel_rfl) (by kernel_rfl) (fun _ _ _ h => h) (Or.inr ⟨by kernel_rfl, ?_⟩) (by assumption) ?_
  rotate_left
  ·rfl
  try go_frame
  refine wpAnyH_take (i := 11) (v := ?_) rfl (by kernel_rfl) (by kernel_rfl) (by kernel_rfl) (fun _ _ _ h => h) (Or.inr ⟨by kernel_rfl, ?_⟩) (by assumption) ?_
  rotate_left
  ·rfl
  try go_frame
  refine wpAnyH_take (i := 12) (v := ?_) rfl (by kernel_rfl) (by kernel_rfl) (by kernel_rfl) (fun _ _ _ h => h) (Or.inr ⟨by kernel_rfl, ?_⟩) (by assumption) ?_
  rotate_left
  ·rfl
  try go_frame
  refine wpAnyH_take (i := 13) (v := ?_) rfl (by kernel_rfl) (by kernel_rfl) (by kernel_rfl) (fun _ _ _ h => h) (Or.inr ⟨by kernel_rfl, ?_⟩) (by assumption) ?_
  rotate_left
  ·rfl
  try go_frame
  refine wpAnyH_take (i := 14) (v := ?_) rfl (by kernel_rfl) (by kernel_rfl) (by kernel_rfl) (fun _ _ _ h => h) (Or.inr ⟨by kernel_rfl, ?_⟩) (by assumption) ?_
  rotate_left
  ·rfl
  try go_frame
  refine wpAnyH_take (i := 15) (v := ?_) rfl (by kernel_rfl) (by kernel_rfl) (by kernel_rfl) (fun _ _ _ h => h) (Or.inr ⟨by kernel_rfl, ?_⟩) (by assumption) ?_
  rotate_left
  ·rfl
  try go_frame
  refine wpAnyH_take (i := 16) (v := ?_) rfl (by kernel_rfl) (by kernel_rfl) (by kernel_rfl) (fun _ _ _ h => h) (Or.inr ⟨by kernel_rfl, ?_⟩) (by assumption) ?_
  rotate_left
  ·rfl
  try go_frame
  refine wpAnyH_take (i := 17) (v := ?_) rfl (by kernel_rfl) (by kernel_rfl) (by kernel_rfl) (fun _ _ _ h => h) (Or.inr ⟨by kernel_rfl, ?_⟩) (by assumption) ?_
  rotate_left
  ·rfl
  try go_frame
  refine wpAnyH_take (i := 18) (v := ?_) rfl (by kernel_rfl) (by kernel_rfl) (by kernel_rfl) (fun _ _ _ h => h) (Or.inl ⟨by kernel_rfl, ?_⟩) (by assumption) ?_
  rotate_left
  ·(intro w hSw; (try dsimp only at hSw); go_simp; try (with_reducible rfl))
  try go_frame
  refine wpAnyH_ready (rs := [19]) (by kernel_rfl) (by simp) ?_
  refine AllReadyH.cons rfl (fun K hK => ?_) AllReadyH.nil
  go_simp
  refine hK.out _ _ (by refine ⟨?_, ?_, ?_, ?_, ?_⟩ <;> go_keep) (fun hHeld => ?_)
  clear hK K
  try go_frame
  refine wpAnyH_ready (rs := [20]) (by kernel_rfl) (by simp) ?_
  refine AllReadyH.cons rfl (fun K hK => ?_) AllReadyH.nil
  go_simp
  refine hK.out _ _ (hHeld) (fun hHeld => ?_)
  clear hK K
  try go_frame
  refine wpAnyH_done (by kernel_rfl) ?_ _
  have hZ := ((((HQ.out.keep hv).set 0 (.string d)).set 1 (.int .i64 (mg : Int))).set 2 (.int .i64 mi))
  have hBz := ((((below_up HB.out hv).setCell (p := ⟨w.heap.size + 1, 0, none⟩) (by simp) (.string d)).setCell (p := ⟨w.heap.size + 1, 1, none⟩) (by simp) (.int .i64 (mg : Int))).setCell (p := ⟨w.heap.size + 1, 2, none⟩) (by simp) (.int .i64 mi))
  obtain ⟨V, hV⟩ : ∃ V, (((w5.setCell ⟨w.heap.size + 1, 0, none⟩ (.string d)).setCell ⟨w.heap.size + 1, 1, none⟩ (.int .i64 (mg : Int))).setCell ⟨w.heap.size + 1, 2, none⟩ (.int .i64 mi)) = V := ⟨_, rfl⟩
  rw [hV] at hZ hBz ⊢
  have hZ : Blk V (w.heap.size + 1) #[.string d, .int .i64 (mg : Int), .int .i64 mi] 70 := hZ
  obtain ⟨g0, g1, g2⟩ := hZ.three
  go_wp2_with fail
  refine bodyPost_ret (v := .tuple #[.agg #[.string d, .int .i64 (mg : Int), .int .i64 mi], .bool _]) (by simp [results, Tryz.results100, go_sem, g0, g1, g2]; rfl) rfl ⟨by simp, hBz⟩
theorem OwnC.setCell {w : World} {B k g n cap : Nat} {e : TypeId} {xs : List Value} (h : OwnC w B e k g n cap xs) {p : Nat} (hp : p < n * k) (v : Value) : OwnC (w.setCell ⟨g, p, none⟩ v) B e k g n cap (xs.set p v) := by
 obtain ⟨cur, hB, hc, hn, hm, hs, ht, hl⟩ := h
 have hb : Blk w g cur e := hc
 refine ⟨cur.setIfInBounds p v, hB, hb.set p v, hn, hm, by simpa using hs, ?_, by simpa using hl⟩
 rw [← ht, Array.toList_setIfInBounds, List.take_set]
theorem Enc.flat_set1 {α : Type} (E : Enc α) (v : Value) (j : Nat) (hj : j < E.k) (x x' : α) (hx : E.cells x' = (E.cells x).set j v) : ∀ (L : List α) (i : Nat), L[i]? = some x → E.flat (L.set i x') = (E.flat L).set (i * E.k + j) v
 | [], i, h => by simp at h
 | y :: L, 0, h => by
   obtain rfl : y = x := by simpa using h
   rw [List.set_cons_zero, flat_cons, flat_cons, hx, Nat.zero_mul, Nat.zero_add, List.set_append_left _ _ (by rw [E.len]; exact hj)]
 | y :: L, i + 1, h => by
   rw [List.getElem?_cons_succ] at h
   have ih := Enc.flat_set1 E v j hj x x' hx L i h
   rw [List.set_cons_succ, flat_cons, flat_cons, ih, List.set_append_right _ _ (by rw [E.len, Nat.succ_mul]; omega), E.len, show (i + 1) * E.k + j - E.k = i * E.k + j by rw [Nat.succ_mul]; omega]
def DelOk {α : Type} (E : Enc α) (val : α → Value) (w0 : World) (g : Nat) (c : FuncId) (lb : Array Value) (p : α → Bool) (L : List α) : Prop :=
 ∀ (V : World) (x : α), x ∈ L → w0.grownBy V (some g) → Calls Tryz.prog c (#[val x] ++ lb) V fun e w' => e = .returned (.bool (p x)) ∧ Below V.heap.size V w'
theorem St.del_start {α : Type} {p : α → Bool} {L : List α} {j : Nat} {x : α} (hx : L[j]? = some x) (hp : p x = true) (hb : ∀ k y, k < j → L[k]? = some y → p y = false) : L.take j = (L.take (j + 1)).filter (fun y => !p y) := by
 rw [List.take_add_one, hx, List.filter_append]
 have h1 : (L.take j).filter (fun y => !p y) = L.take j := List.filter_eq_self.2 (fun y hy => by
  obtain ⟨i, hi⟩ := List.getElem?_of_mem hy
  have hij : i < j := by
   have := (List.getElem?_eq_some_iff.1 hi).1
   rw [List.length_take] at this; omega
  rw [List.getElem?_take_of_lt hij] at hi
  rw [hb i y hij hi]; rfl)
 rw [h1]
 simp [hp]
theorem St.del_none {α : Type} {p : α → Bool} {L : List α} (h : St.idx p L 0 < 0) : L.filter (fun y => !p y) = L :=
 List.filter_eq_self.2 (fun y hy => by rw [St.idx_neg.1 h y hy]; rfl)
theorem St.del_drop {α : Type} {L M : List α} {j : Nat} (h : M.drop j = L.drop j) : M.drop (j + 1) = L.drop (j + 1) := by
 have := congrArg (List.drop 1) h
 rwa [List.drop_drop, List.drop_drop] at this
theorem St.del_at {α : Type} {L M : List α} {j : Nat} (h : M.drop j = L.drop j) : M[j]? = L[j]? := by
 have := congrArg (fun l => l[0]?) h
 simpa using this
theorem St.del_skip {α : Type} {p : α → Bool} {L M : List α} {i j : Nat} {x : α} (h : M.take i = (L.take j).filter (fun y => !p y)) (hx : L[j]? = some x) (hp : p x = true) : M.take i = (L.take (j + 1)).filter (fun y => !p y) := by
 rw [h, List.take_add_one, hx, List.filter_append]
 simp [hp]
theorem St.del_move {α : Type} {p : α → Bool} {L M : List α} {i j : Nat} {x : α} (h : M.take i = (L.take j).filter (fun y => !p y)) (hi : i < M.length) (hx : L[j]? = some x) (hp : p x = false) : (M.set i x).take (i + 1) = (L.take (j + 1)).filter (fun y => !p y) := by
 have h1 : (M.set i x)[i]? = some x := by rw [List.getElem?_set_self hi]
 rw [List.take_add_one, h1, List.take_set_of_le (Nat.le_refl _), h, List.take_add_one, hx, List.filter_append]
 simp [hp]
theorem St.del_far {α : Type} {L M : List α} {i j : Nat} {x : α} (h : M.drop j = L.drop j) (hi : i < j) : (M.set i x).drop (j + 1) = L.drop (j + 1) := by
 rw [List.drop_set_of_lt (by omega)]
 exact St.del_drop h

theorem strF_idx (fn : FuncId) (lb : Array Value) (eg : ∀ args w, (callFunc fn args).run Tryz.prog w = .ok (.enter fn args) w) (p : ByteArray → Bool) (L : List ByteArray) (sa : Option Addr) (sc : Nat) (w : World) (hr : RowE St.eS w sa L) (hl : L.length ≤ sc ∧ sc ≤ 9223372036854775807)
  (HD : ∀ (V : World) (x : ByteArray), x ∈ L → Below w.heap.size w V → Calls Tryz.prog fn (#[.string x] ++ lb) V fun e w' => e = .returned (.bool (p x)) ∧ Below V.heap.size V w') :
  Calls Tryz.prog 161 #[.slice sa L.length sc, .func (.func fn) #[] lb] w fun e w' => e = .returned (.int .i64 (St.idx p L 0)) ∧ Below w.heap.size w w' := by
 have HR := Lib.hid hr; have HD := Lib.hid HD
 obtain ⟨q, hq⟩ : ∃ q, St.idx p L 0 = q := ⟨_, rfl⟩
 rw [hq]
 have HQ : Hid (St.idx p (L.drop 0) 0 = q) := Lib.hid hq
 obtain ⟨n, hn⟩ : ∃ n, L.length = n := ⟨_, rfl⟩
 have HN := Lib.hid hn
 rw [hn] at hl ⊢
 clear hr hq hn
 go_enter Tryz.func161, Tryz.ntmps161
 go_wp2_with fail
 go_loopg [8] n (fun gk i wr => ∃ j : Nat, j ≤ n ∧ gk = n - j ∧ i = .int .i64 j ∧ St.idx p (L.drop j) j = q ∧ Below w.heap.size w wr)
 case atStart => exact ⟨0, by omega, rfl, rfl, HQ.out, Below.refl _ _⟩
 case round =>
  obtain ⟨j, hj, rfl, rfl, hs, hB⟩ := hrel
  have HSC := Lib.hid hs; clear hs
  by_cases hlt : j < n
  ·obtain ⟨x, hx⟩ : ∃ x, L[j]? = some x := ⟨_, List.getElem?_eq_getElem (by rw [HN.out]; exact hlt)⟩
   obtain ⟨b, off, ha, hb, hcell⟩ := (HR.out.keep hB) (by rw [HN.out]; omega)
   have c0 : wr.cell? ⟨b, off + j, none⟩ = some (.string x) := by have := hcell j x hx 0 (.string x) rfl; rw [show off + j * St.eS.k + 0 = off + j by simp [St.eS]] at this; exact this
   have HX := Lib.hid hx
   have HC := Lib.hid (HD.out wr x (List.mem_of_getElem? hx) hB)
   have hj0 : (0 : Int) ≤ (j : Int) := by omega
   have hj1 : (j : Int) < (n : Int) := by omega
   obtain ⟨bq, hbq⟩ : ∃ bq, p x = bq := ⟨_, rfl⟩
   rw [hbq] at HC
   have HBQ := Lib.hid hbq
   rw [ha]
   cases bq
   ·have HE := Lib.hid (St.idx_next HSC.out HX.out HBQ.out)
    clear hx hbq hcell
    go_wp2_with fail
    refine HC.out.mono ?_
    rintro e w4 ⟨rfl, hB4⟩
    go_wp2_with fail
    rw [← ha]
    go_roundg (n - (j + 1))
    case rel => exact ⟨j + 1, by omega, rfl, by go_num, HE.out, below_up hB hB4⟩
    case measure => omega
   ·have HE := Lib.hid (St.idx_here HSC.out HX.out HBQ.out)
    clear hx hbq hcell
    go_wp2_with fail
    refine HC.out.mono ?_
    rintro e w4 ⟨rfl, hB4⟩
    go_wp2_with fail
    go_ret
    exact ⟨ret_int HE.out, below_up hB hB4⟩
  ·obtain rfl : j = n := by omega
   have HE := HSC.out
   rw [← HN.out] at HE
   have HE2 := Lib.hid (St.idx_end HE)
   clear HE
   go_wp2_with fail
   go_ret
   exact ⟨ret_int HE2.out, hB⟩


theorem strF_del (fn : FuncId) (lb : Array Value) (eg : ∀ args w, (callFunc fn args).run Tryz.prog w = .ok (.enter fn args) w) (p : ByteArray → Bool) (B g n cap : Nat) (L : List ByteArray) (w : World) (h : OwnC w B 9 1 g n cap (St.eS.flat L)) (hn : n ≤ 1000000) (hL : L.length = n) (HD : DelOk St.eS (fun x => .string x) w g fn lb p L) :
  Calls Tryz.prog 87 #[.slice (some ⟨g, 0, none⟩) n cap, .func (.func fn) #[] lb] w fun e w' => e = .returned (.slice (some ⟨g, 0, none⟩) (L.filter (fun y => !p y)).length cap) ∧ OwnC w' B 9 1 g (L.filter (fun y => !p y)).length cap (St.eS.flat (L.filter (fun y => !p y))) ∧ w.grownBy w' (some g) := by
 have h0 := h
 obtain ⟨cur, hB, hc, hnc, hcm, hcs, htk, hl⟩ := h0
 have hcm2 : cap ≤ 9223372036854775807 := hcm
 have HIX := Lib.hid (strF_idx fn lb eg p L (some ⟨g, 0, none⟩) cap w (RowE.ofV (E := St.eS) (ca := cap) (.inr ⟨g, cap, by rw [hL], by rw [hL]; exact h⟩)) (by omega) (fun V x hx hb => HD V x hx (grown_below (grown_self w g) hb)))
 rw [hL] at HIX
 have HO := Lib.hid h; have HLN := Lib.hid hL; have HD := Lib.hid HD
 by_cases hneg : St.idx p L 0 < 0
 ·have hfl := St.del_none hneg
  have hi1 : St.idx p L 0 = -1 := St.idx_none (St.idx_neg.1 hneg)
  rw [hi1] at HIX
  rw [hfl]
  clear h hc hcs htk hl hfl hi1 hneg hL
  go_enter Tryz.func87, Tryz.ntmps87
  go_wp2_with (go_at_call 161; (with_reducible refine HIX.out.mono ?_); rintro e w3 ⟨rfl, hB3⟩)
  go_ret
  rw [HLN.out]
  exact ⟨rfl, HO.out.keep hB3, grown_below (grown_self w g) hB3⟩
 ·obtain ⟨j0, x0, hq, hx0, hp0, hbef⟩ := St.idx_some (p := p) (L := L) (i := 0) rfl (by omega)
  have hq : St.idx p L 0 = (j0 : Int) := by rw [hq]; simp
  have hj0n : j0 < n := by rw [← hL]; exact (List.getElem?_eq_some_iff.1 hx0).1
  rw [hq] at HIX
  have HST := Lib.hid (St.del_start hx0 hp0 hbef)
  have hne : ((j0 : Int) == -1) = false := by simp
  clear h hc hcs htk hl hq hneg hL hx0 hp0 hbef
  go_enter Tryz.func87, Tryz.ntmps87
  go_wp2_with (go_at_call 161; (with_reducible refine HIX.out.mono ?_); rintro e w3 ⟨rfl, hB3⟩)
  go_loopg [5, 6] (n - (j0 + 1)) (fun gk iv jv wr => ∃ (i j : Nat) (M : List ByteArray), iv = .int .i64 i ∧ jv = .int .i64 j ∧ i < j ∧ j ≤ n ∧ gk = n - j ∧ M.length = n ∧ M.take i = (L.take j).filter (fun y => !p y) ∧ M.drop j = L.drop j ∧ OwnC wr B 9 1 g n cap (St.eS.flat M) ∧ w.grownBy wr (some g))
  case atStart => exact ⟨j0, j0 + 1, L, rfl, by go_num, by omega, by omega, by omega, HLN.out, HST.out, rfl, HO.out.keep hB3, grown_below (grown_self w g) hB3⟩
  case round =>
   obtain ⟨i, j, M, rfl, rfl, hij, hjn, rfl, hM, htk, hdr, hown, hgw⟩ := hrel
   have HML := Lib.hid hM; have HTK := Lib.hid htk; have HDR := Lib.hid hdr; have HOW := Lib.hid hown; have HGW := Lib.hid hgw
   have hlt0 := hown.lt
   clear hM htk hdr hgw
   by_cases hlt : j < n
   ·obtain ⟨x, hx⟩ : ∃ x, M[j]? = some x := ⟨_, List.getElem?_eq_getElem (by rw [HML.out]; exact hlt)⟩
    have hxL : L[j]? = some x := by rw [← St.del_at HDR.out]; exact hx
    have HXL := Lib.hid hxL
    have hj0 : (0 : Int) ≤ (j : Int) := by omega
    have hj1 : (j : Int) < (n : Int) := by omega
    have hi0 : (0 : Int) ≤ (i : Int) := by omega
    have hi1 : (i : Int) < (n : Int) := by omega
    have HMM := Lib.hid (List.mem_of_getElem? hxL)
    have c0 : wr.cell? ⟨g, j, none⟩ = some (.string x) := (hown.cellAt j (by omega)).trans (by have := Enc.flat_get St.eS M j x hx 0 (by decide); simpa [St.eS] using this)
    have HC := Lib.hid (HD.out wr x HMM.out HGW.out)
    clear hx hxL hown
    obtain ⟨bq, hbq⟩ : ∃ bq, p x = bq := ⟨_, rfl⟩
    rw [hbq] at HC
    have HBQ := Lib.hid hbq
    clear hbq
    cases bq
    ·go_wp2_with fail
     refine HC.out.mono ?_
     rintro e w4 ⟨rfl, hB4⟩
     have how4 := HOW.out.keep hB4
     obtain ⟨cur4, _, hc4, _⟩ := id how4
     have hfz := fun o => frozen_of hc4 o
     have hce : ∃ v, w4.cell? ⟨g, i, none⟩ = some v := by
      have := how4.cellAt i (by omega)
      exact ⟨_, this.trans (List.getElem?_eq_getElem (by rw [St.eS.flat_len, HML.out]; simp [St.eS]; omega))⟩
     obtain ⟨v0, hv0⟩ := hce
     have hfz0 := hfz i
     go_wp2_with fail
     go_roundg (n - (j + 1))
     case rel =>
      refine ⟨i + 1, j + 1, M.set i x, by go_num, by go_num, by omega, by omega, rfl, by rw [List.length_set]; exact HML.out, St.del_move HTK.out (by rw [HML.out]; omega) HXL.out HBQ.out, St.del_far HDR.out hij, ?_, ?_⟩
      ·have h1 := how4.setCell (p := i) (by omega) (.string x)
       have h2 : St.eS.flat (M.set i x) = (St.eS.flat M).set i (.string x) := by
        have h3 := Enc.flat_set1 St.eS (.string x) 0 (by decide) (M[i]'(by rw [HML.out]; omega)) x rfl M i (List.getElem?_eq_getElem (by rw [HML.out]; omega))
        simpa [St.eS] using h3
       rw [h2]; exact h1
      ·exact grown_set (grown_below HGW.out hB4) _ _
     case measure => omega
    ·go_wp2_with fail
     refine HC.out.mono ?_
     rintro e w4 ⟨rfl, hB4⟩
     go_wp2_with fail
     go_roundg (n - (j + 1))
     case rel => exact ⟨i, j + 1, M, rfl, by go_num, by omega, by omega, rfl, HML.out, St.del_skip HTK.out HXL.out HBQ.out, St.del_drop HDR.out, HOW.out.keep hB4, grown_below HGW.out hB4⟩
     case measure => omega
   ·obtain rfl : j = n := by omega
    have hjn1 : ¬ ((j : Int) < (j : Int)) := by omega
    have hf : M.take i = L.filter (fun y => !p y) := by
     have h := HTK.out
     rw [← HLN.out, List.take_length] at h
     exact h
    have hfl : (L.filter (fun y => !p y)).length = i := by rw [← hf, List.length_take, HML.out]; omega
    obtain ⟨w5, hr5, ⟨zs, ho5⟩, hg5⟩ := own_clear (P := Tryz.prog) hown 25 Tryz.underlying25 (.string ByteArray.empty) (fun w => by kernel_rfl) rfl (by decide) (i * 1) (j - i) (by omega) (by omega)
    try simp only [Nat.mul_one] at hr5
    have hfm : (St.eS.flat M).take (i * 1) = St.eS.flat (M.take i) := Enc.flat_take St.eS M i
    have hfm2 : (St.eS.flat M).length = j * 1 := by rw [St.eS.flat_len, HML.out]; rfl
    have ho6 := own_less ho5 (m := i) (by omega)
    rw [List.take_left' (by rw [List.length_take, hfm2]; omega), hfm, hf] at ho6
    have HO6 := Lib.hid ho6; have HG6 := Lib.hid (HGW.out.trans hg5); have HFL := Lib.hid hfl
    have hb5 : ¬ cap = i := by omega
    have hi0 : (0 : Int) ≤ (i : Int) := by omega
    have hi1 : (i : Int) ≤ (j : Int) := by omega
    clear ho5 ho6 hg5 hown hfm hfm2 hf hfl
    go_wp2_with (at_builtin; refine Lib.wpList_clear_run _ rfl _ _ rfl _ rfl (hr5 _ _) ?_)
    go_ret
    rw [HFL.out]
    exact ⟨rfl, HO6.out, HG6.out⟩

end Go.Proofs.YthdiccdnggloiaaGreatDoor
