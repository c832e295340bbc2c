/- An image's text, read: the plain reader; what is split, as a row of strings. -/
import Derived.Test.YtpgjpnnjlilokaaDoorRdHead
import Derived.Test.YtpgjpnnjlilokaaDoorStrRow
import Derived.Lib.OwnKind
import Derived.Laws.OwnMore
namespace Go.Proofs.YtpgjpnnjlilokaaDoor
open Go.RowKit Go.Sort Go.Shelf
set_option linter.unusedVariables false
namespace Pr
abbrev Run := Nat × Nat × Nat × Nat
/-- Line i; what line i + 1 says; how many runs there are. -/
def lin (s : List UInt8) (i : Nat) : List UInt8 := (spl 10 s).getD i []
def rn (s : List UInt8) (i : Nat) : Run := (run (lin s (i + 1))).getD (0, 0, 0, 0)
def sumN (R : Nat → Run) : Nat → Nat
  | 0 => 0
  | k + 1 => sumN R k + (R k).1
/-- A pixel, so many times. -/
def rep (p : Nat × Nat × Nat) : Nat → List Value
  | 0 => []
  | t + 1 => rep p t ++ [.int .u8 p.1, .int .u8 p.2.1, .int .u8 p.2.2]
/-- The bytes of the first runs. -/
def acc (R : Nat → Run) : Nat → List Value
  | 0 => []
  | k + 1 => acc R k ++ rep (R k).2 (R k).1
theorem rep_len (p : Nat × Nat × Nat) (t : Nat) : (rep p t).length = 3 * t := by
  induction t with
  | zero => rfl
  | succ t ih => simp only [rep, List.length_append, ih]; simp; omega
theorem acc_len (R : Nat → Run) (k : Nat) : (acc R k).length = 3 * sumN R k := by
  induction k with
  | zero => rfl
  | succ k ih => simp only [acc, sumN, List.length_append, ih, rep_len]; omega
/-- The runs as cells. -/
def flat4 (R : Nat → Run) : Nat → List Value
  | 0 => []
  | k + 1 => flat4 R k ++ [.int .i64 (R k).1, .int .u8 (R k).2.1, .int .u8 (R k).2.2.1, .int .u8 (R k).2.2.2]
theorem flat4_len (R : Nat → Run) (k : Nat) : (flat4 R k).length = 4 * k := by
  induction k with
  | zero => rfl
  | succ k ih => simp only [flat4, List.length_append, ih]; simp; omega
theorem flat4_get (R : Nat → Run) (n : Nat) : ∀ k, k < n → (flat4 R n)[4 * k]? = some (.int .i64 (R k).1) ∧ (flat4 R n)[4 * k + 1]? = some (.int .u8 (R k).2.1) ∧ (flat4 R n)[4 * k + 2]? = some (.int .u8 (R k).2.2.1) ∧ (flat4 R n)[4 * k + 3]? = some (.int .u8 (R k).2.2.2) := by
  induction n with
  | zero => intro k hk; omega
  | succ n ih =>
    intro k hk
    have hl := flat4_len R n
    simp only [flat4]
    by_cases h : k < n
    · obtain ⟨h0, h1, h2, h3⟩ := ih k h
      refine ⟨?_, ?_, ?_, ?_⟩ <;> (rw [List.getElem?_append_left (by omega)]; assumption)
    · obtain rfl : k = n := by omega
      refine ⟨?_, ?_, ?_, ?_⟩
      · rw [List.getElem?_append_right (by omega), hl, show 4 * k - 4 * k = 0 by omega]; rfl
      · rw [List.getElem?_append_right (by omega), hl, show 4 * k + 1 - 4 * k = 1 by omega]; rfl
      · rw [List.getElem?_append_right (by omega), hl, show 4 * k + 2 - 4 * k = 2 by omega]; rfl
      · rw [List.getElem?_append_right (by omega), hl, show 4 * k + 3 - 4 * k = 3 by omega]; rfl
/-- A run may follow. -/
def okAt (all : Nat) (R : Nat → Run) (k : Nat) : Prop := (R k).1 ≠ 0 ∧ (k = 0 ∨ (R k).2 ≠ (R (k - 1)).2) ∧ sumN R k + (R k).1 ≤ all
inductive Res
  | err (q : Int)
  | ok (W H : Nat) (xs : List Value)
/-- What is read: G of n runs can be read, M of n may follow. -/
def resOf (G n W H M S : Nat) (xs : List Value) : Res :=
  if G < n then .err 8 else if W < 1 ∨ 64 < W ∨ H < 1 ∨ 64 < H then .err 2 else if M < n then .err 1 else if S ≠ W * H then .err 1 else .ok W H xs
theorem first (p : Nat → Prop) : ∀ n, ∃ G, G ≤ n ∧ (∀ i, i < G → p i) ∧ (G < n → ¬ p G)
  | 0 => ⟨0, Nat.le_refl _, fun i h => by omega, fun h => by omega⟩
  | n + 1 => by
    obtain ⟨G, h1, h2, h3⟩ := first p n
    by_cases hG : G < n
    · exact ⟨G, by omega, h2, fun _ => h3 hG⟩
    · obtain rfl : G = n := by omega
      by_cases hp : p G
      · exact ⟨G + 1, by omega, fun i hi => by by_cases e : i = G; exact e ▸ hp; exact h2 i (by omega), fun h => by omega⟩
      · exact ⟨G, by omega, h2, fun _ => hp⟩
theorem sumN_le {all : Nat} {R : Nat → Run} {M : Nat} (h : ∀ i, i < M → okAt all R i) : ∀ k, k ≤ M → sumN R k ≤ all
  | 0, _ => Nat.zero_le _
  | k + 1, hk => (h k (by omega)).2.2
theorem run_lt {s : List UInt8} {r : Run} (h : run s = some r) : r.1 < 10000 ∧ r.2.1 < 256 ∧ r.2.2.1 < 256 ∧ r.2.2.2 < 256 := by
  unfold run at h
  cases hn : num4 (Lib.cut s [32]).1 with
  | none => rw [hn] at h; cases h
  | some n =>
    cases hp : px6 (Lib.cut s [32]).2.1 with
    | none => rw [hn, hp] at h; cases h
    | some p =>
      rw [hn, hp] at h
      injection h with h
      subst h
      refine ⟨num4_lt hn, ?_⟩
      unfold px6 at hp
      split at hp
      · rename_i a b c d e f _
        cases h1 : two a b with
        | none => rw [h1] at hp; cases hp
        | some x => cases h2 : two c d with
          | none => rw [h1, h2] at hp; cases hp
          | some y => cases h3 : two e f with
            | none => rw [h1, h2, h3] at hp; cases hp
            | some z =>
              rw [h1, h2, h3] at hp
              injection hp with hp
              subst hp
              obtain ⟨_, _, _, _, _, _, _⟩ := two_some h1
              obtain ⟨_, _, _, _, _, _, _⟩ := two_some h2
              obtain ⟨_, _, _, _, _, _, _⟩ := two_some h3
              exact ⟨by simp only; omega, by simp only; omega, by simp only; omega⟩
      · cases hp
theorem lin_le (s : List UInt8) (i : Nat) : (lin s i).length ≤ s.length := by
  unfold lin
  rw [List.getD_eq_getElem?_getD]
  cases h : (spl 10 s)[i]? with
  | none => simp
  | some x => exact spl_mem_le 10 s x (List.mem_of_getElem? h)
end Pr
theorem split_is (s : List UInt8) (c : UInt8) (hs : s.length < 4294967281) (w : World) (hm : Mx w) :
    Calls Tryd.prog 24 #[.string (Tx.mk s), .string (Tx.mk [c])] w fun e w' => e = .returned (.slice (some ⟨w.heap.size, 0, none⟩) (Pr.spl c s).length (Pr.spl c s).length) ∧ StrRow w' w.heap.size (Pr.spl c s) ∧ Below w.heap.size w w' ∧ w'.heap.size = w.heap.size + 1 := by
  obtain ⟨m, hm⟩ := hm
  refine (Any.strings_Split { Lay.splitM with } Lay.splitM.i9 (Tx.mk s) (Tx.mk [c]) m w (by rw [Tx.mk_size]; exact hs) hm (by rw [Tx.mk_size]; simp)).mono ?_
  rintro e w' ⟨rfl, rfl⟩
  rw [Pr.splitB_spl, Pr.countB_spl]
  refine ⟨rfl, ⟨by simp, fun i hi => ?_⟩, (Below.refl _ _).alloc (Nat.le_refl _) _, by simp⟩
  rw [(Blk.new w _ _).cell]
  rw [List.getElem?_toArray, List.getElem?_map, List.getElem?_map, List.getD_eq_getElem?_getD, List.getElem?_eq_getElem hi]
  rfl
/-- A block begins with a list. -/
def Lst (w : World) (g : Nat) (xs : List Value) : Prop := g < w.heap.size ∧ ∀ i, i < xs.length → w.cell? ⟨g, i, none⟩ = xs[i]?
theorem Lst.keep {w w' : World} {g : Nat} {xs : List Value} (h : Lst w g xs) (hb : Below w.heap.size w w') : Lst w' g xs :=
  ⟨Nat.lt_of_lt_of_le h.1 hb.size, fun i hi => (hb.cell (p := ⟨g, i, none⟩) h.1).trans (h.2 i hi)⟩
theorem Lst.of_own {w : World} {base g n cap size : Nat} {e : TypeId} {xs : List Value} (h : w.ownsRow base e size (.slice (some ⟨g, 0, none⟩) n cap) n xs) (hl : xs.length = n * size) : Lst w g xs :=
  ⟨(h.lt g rfl).2, fun i hi => h.cellAt i (by omega)⟩
theorem Lst.setOther {w : World} {g b i : Nat} {v : Value} {xs : List Value} (h : Lst w g xs) (hne : g ≠ b) : Lst (w.setCell ⟨b, i, none⟩ v) g xs := by
  refine ⟨by simpa using h.1, fun j hj => ?_⟩
  have := h.2 j hj
  unfold World.cell? at this ⊢
  rw [Below.heap_setCell w _ v g (by simpa using hne)]
  exact this
/-- What the readers return. -/
def ReadPost (w : World) (r : Pr.Res) (e : Ending) (w' : World) : Prop :=
  Below w.heap.size w w' ∧ match r with
  | .err q => e = .returned (.tuple #[.agg #[.int .i64 0, .int .i64 0, .slice none 0 0], .int .i64 q])
  | .ok W H xs => ∃ g cap, e = .returned (.tuple #[.agg #[.int .i64 W, .int .i64 H, .slice (some ⟨g, 0, none⟩) xs.length cap], .int .i64 0]) ∧ xs.length ≤ cap ∧ w.heap.size ≤ g ∧ Lst w' g xs
theorem cell_four_new (w : World) (x y z u : Value) (t : TypeId) : ∀ j v, [x, y, z, u][j]? = some v → (w.alloc (.cells #[x, y, z, u] t)).cell? ((⟨w.heap.size, 0, none⟩ : Addr).add j) = some v := by
  intro j v h
  have hadd : (⟨w.heap.size, 0, none⟩ : Addr).add j = ⟨w.heap.size, j, none⟩ := by unfold Addr.add; split <;> simp_all
  rw [hadd, (Blk.new w _ t).cell]
  rw [List.getElem?_toArray]; exact h
/-- A row of the call's own beside a store. -/
theorem own_set {w : World} {base : Nat} {e : TypeId} {size : Nat} {v : Value} {n : Nat} {xs : List Value} (h : w.ownsRow base e size v n xs) {a : Addr} (ha : a.block < base) (x : Value) : (w.setCell a x).ownsRow base e size v n xs := by
  refine h.kept (row := some a.block) ⟨rfl, rfl, rfl, by simp, fun k hk hne => Below.heap_setCell _ _ _ _ (by simpa using hne)⟩ ?_
  rcases h.2 with ⟨rfl, _⟩ | ⟨g, cap, cur, rfl, hg, _⟩
  · exact .inl rfl
  · right; simp [Value.ownBlock]; omega
theorem own_set2 {w : World} {base : Nat} {e : TypeId} {size : Nat} {v : Value} {n : Nat} {xs : List Value} (h : w.ownsRow base e size v n xs) {a : Addr} (ha : v.ownBlock = none ∨ v.ownBlock ≠ some a.block) (x : Value) : (w.setCell a x).ownsRow base e size v n xs :=
  h.kept (row := some a.block) ⟨rfl, rfl, rfl, by simp, fun k hk hne => Below.heap_setCell _ _ _ _ (by simpa using hne)⟩ ha
theorem own_grown {w w' : World} {base : Nat} {e : TypeId} {size : Nat} {v : Value} {n : Nat} {xs : List Value} {row : Option Nat} (h : w.ownsRow base e size v n xs) (hg : w.grownBy w' row) (hne : v.ownBlock = none ∨ v.ownBlock ≠ row) : w'.ownsRow base e size v n xs :=
  h.kept hg hne
/-- A row's block is not one of another kind, nor an older one. -/
theorem Blk.ne_own {w : World} {b : Nat} {c : Array Value} {t : TypeId} {B : Nat} {e : TypeId} {size : Nat} {v : Value} {n : Nat} {xs : List Value} (hb : Blk w b c t) (h : w.ownsRow B e size v n xs) (hne : t ≠ e) : some b ≠ v.ownBlock := by
  intro he
  obtain ⟨cs, fz, hc⟩ := Lib.ownsRow_kind h b he.symm
  unfold Blk at hb
  rw [hb] at hc
  injection hc with hc
  injection hc with _ h2
  exact hne h2
theorem own_old {w : World} {B : Nat} {e : TypeId} {size : Nat} {v : Value} {n : Nat} {xs : List Value} (h : w.ownsRow B e size v n xs) {b : Nat} (hb : b < B) : some b ≠ v.ownBlock := by
  intro he
  have := (h.lt b he.symm).1
  omega
theorem own_apart {w : World} {B B' : Nat} {e e' : TypeId} {size size' : Nat} {v v' : Value} {n n' : Nat} {xs xs' : List Value} (h : w.ownsRow B e size v n xs) (h' : w.ownsRow B' e' size' v' n' xs') (hne : e ≠ e') : v'.ownBlock = none ∨ v'.ownBlock ≠ v.ownBlock := by
  cases hv : v'.ownBlock with
  | none => exact .inl rfl
  | some b =>
    right
    intro he
    obtain ⟨cs, fz, hc⟩ := Lib.ownsRow_kind h b he.symm
    obtain ⟨cs', fz', hc'⟩ := Lib.ownsRow_kind h' b hv
    rw [hc] at hc'
    injection hc' with hc'
    injection hc' with _ h2
    exact hne h2
theorem news_xb {w : World} {b : Nat} {x y z u : Value} {t : TypeId} (h : Blk w b #[u, x, y, z] t) : ∀ j v, [x, y, z][j]? = some v → w.cell? ((⟨b, 1, none⟩ : Addr).add j) = some v := by
  intro j v hv
  have hadd : (⟨b, 1, none⟩ : Addr).add j = ⟨b, 1 + j, none⟩ := by unfold Addr.add; split <;> simp_all
  rw [hadd, h.cell]
  match j, hv with
  | 0, hv => exact hv
  | 1, hv => exact hv
  | 2, hv => exact hv
end Go.Proofs.YtpgjpnnjlilokaaDoor
