/- What a stamp says, and that it is written back: plain lists. -/
import Derived.Test.YthldlffkgafgaaaDoorLocLaw2
import Derived.Test.YthldlffkgafgaaaDoorSecs2
import Derived.Test.YthldlffkgafgaaaDoorTxAwake
import Derived.Test.YthldlffkgafgaaaDoorDigMath
import Derived.Test.YthldlffkgafgaaaDoorStampLaw
namespace Go.Proofs.YthldlffkgafgaaaDoor
namespace Ft
def zoneF (c : UInt8) : List UInt8 := [c, 48, 48, 58, 48, 48]
theorem few_zone (c : UInt8) : Few (zoneF c) := .inl (by show 6 ≤ 18; omega)
theorem res_zone (t : List UInt8) (c : UInt8) (hc : c ≠ 48) :
    res t (zoneF c) = if t.length = 6 ∧ t[0]? = some c ∧ (Dg.allD (win t 1 3) = true ∧ t[3]? = some 58) ∧ Dg.allD (win t 4 6) = true then some [(Dg.val (win t 1 3) : Int), (Dg.val (win t 4 6) : Int)] else none := by
  by_cases hl : t.length = 6
  · have e : res t (zoneF c) = go t (zoneF c) (6 + 1) 0 0 [] := by unfold res; rw [if_pos (show t.length = (zoneF c).length from hl)]; rfl
    have n0 : (zoneF c)[0]? ≠ some 48 := by show some c ≠ some 48; simpa using hc
    have g1 := fun acc => group (s := t) (form := zoneF c) 2 3 1 acc (by omega) (fun i h1 h => by have e : i = 1 ∨ i = 2 := (by omega); rcases e with rfl | rfl <;> rfl) (by show some (58 : UInt8) ≠ some 48; decide)
    have g2 := fun acc => group (s := t) (form := zoneF c) 2 0 4 acc (by omega) (fun i h1 h => by have e : i = 4 ∨ i = 5 := (by omega); rcases e with rfl | rfl <;> rfl) (by show (none : Option UInt8) ≠ some 48; simp)
    rw [e]
    by_cases c0 : t[0]? = some c
    · rw [go_sep n0 (by omega) (fun h => h.2 c0)]
      show go t (zoneF c) (3 + 1 + 2) 1 1 [] = _
      rw [g1]
      by_cases c1 : Dg.allD (win t 1 3) = true ∧ t[3]? = some 58
      · rw [if_pos ⟨c1.1, fun h => h.2 c1.2⟩]
        show go t (zoneF c) (0 + 1 + 2) 4 4 _ = _
        rw [g2]
        by_cases c2 : Dg.allD (win t 4 6) = true
        · rw [if_pos ⟨c2, fun h => absurd h.1 (by show ¬ 6 < 6; omega)⟩, if_pos ⟨hl, c0, c1, c2⟩]; rfl
        · rw [if_neg (fun h => c2 h.1), if_neg (fun h => c2 h.2.2.2)]
      · rw [if_neg (fun h => c1 ⟨h.1, by
          by_cases e3 : t[3]? = some 58
          · exact e3
          · exact absurd ⟨show 3 < 6 by omega, e3⟩ h.2⟩), if_neg (fun h => c1 h.2.2.1)]
    · rw [go_sepBad n0 (by omega) (by show 0 < 6; omega) c0, if_neg (fun h => c0 h.2.1)]
  · have e : res t (zoneF c) = none := by unfold res; rw [if_neg (by show ¬ t.length = 6; exact hl)]
    rw [e, if_neg (fun h => hl h.1)]
end Ft
end Go.Proofs.YthldlffkgafgaaaDoor
namespace Go.Proofs.YthldlffkgafgaaaDoor
namespace Dg
theorem ofNat_back (a : UInt8) (n : Nat) (h : n = a.toNat) : UInt8.ofNat n = a := by rw [h]; exact UInt8.ofNat_toNat
theorem isD_bd {a : UInt8} (h : isD a = true) : 48 ≤ a.toNat ∧ a.toNat ≤ 57 := by simpa [isD] using h
theorem two_back {l : List UInt8} (h : l.length = 2) (hd : allD l = true) : Tx.pad (val l) 2 = l := by
  match l, h with
  | [a, b], _ =>
    simp only [allD, List.all_cons, List.all_nil, Bool.and_true, Bool.and_eq_true] at hd
    have ha := isD_bd hd.1
    have hb := isD_bd hd.2
    have hv : val [a, b] = 10 * (a.toNat - 48) + (b.toNat - 48) := by show 10 * (10 * 0 + (a.toNat - 48)) + (b.toNat - 48) = _; omega
    rw [hv, Tx.pad2_val (by omega), ofNat_back a _ (by omega), ofNat_back b _ (by omega)]
theorem four_back {l : List UInt8} (h : l.length = 4) (hd : allD l = true) (hv0 : 1000 ≤ val l) : Tx.pad (val l) 4 = l := by
  match l, h with
  | [a, b, c, d], _ =>
    simp only [allD, List.all_cons, List.all_nil, Bool.and_true, Bool.and_eq_true] at hd
    have ha := isD_bd hd.1
    have hb := isD_bd hd.2.1
    have hc := isD_bd hd.2.2.1
    have hd4 := isD_bd hd.2.2.2
    have hv : val [a, b, c, d] = 1000 * (a.toNat - 48) + 100 * (b.toNat - 48) + 10 * (c.toNat - 48) + (d.toNat - 48) := by
      show 10 * (10 * (10 * (10 * 0 + (a.toNat - 48)) + (b.toNat - 48)) + (c.toNat - 48)) + (d.toNat - 48) = _; omega
    rw [hv] at hv0
    rw [hv, Tx.pad4_val (by omega) (by omega), ofNat_back a _ (by omega), ofNat_back b _ (by omega), ofNat_back c _ (by omega), ofNat_back d _ (by omega)]
/-- And back: two digits that are written are read as the number. -/
theorem pad2_read {n : Nat} (h : n < 100) : allD (Tx.pad n 2) = true ∧ val (Tx.pad n 2) = n := by
  rw [Tx.pad2_val h]
  have t : ∀ k, k < 10 → (UInt8.ofNat (48 + k)).toNat = 48 + k := fun k hk => by simp only [UInt8.toNat_ofNat']; omega
  have t1 := t (n / 10) (by omega)
  have t2 := t (n % 10) (by omega)
  constructor
  · simp only [allD, List.all_cons, List.all_nil, Bool.and_true, Bool.and_eq_true, isD, decide_eq_true_eq]
    omega
  · show 10 * (10 * 0 + ((UInt8.ofNat (48 + n / 10)).toNat - 48)) + ((UInt8.ofNat (48 + n % 10)).toNat - 48) = n
    omega
end Dg
end Go.Proofs.YthldlffkgafgaaaDoor
namespace Go.Proofs.YthldlffkgafgaaaDoor
namespace Ft
theorem win_join (s : List UInt8) {a b c : Nat} (h1 : a ≤ b) (h2 : b ≤ c) : win s a b ++ win s b c = win s a c := by
  unfold win
  rw [show c - a = (b - a) + (c - b) by omega, List.take_add, List.drop_drop, show a + (b - a) = b by omega]
theorem win_one (s : List UInt8) (a : Nat) (x : UInt8) (h : s[a]? = some x) : win s a (a + 1) = [x] := by
  obtain ⟨h1, h2⟩ := List.getElem?_eq_some_iff.1 h
  unfold win
  rw [List.drop_eq_getElem_cons h1, show a + 1 - a = 1 by omega, h2]; rfl
theorem win_all (s : List UInt8) (n : Nat) (h : s.length = n) : win s 0 n = s := by
  unfold win; rw [List.drop_zero, Nat.sub_zero, ← h, List.take_length]
theorem win_win (s : List UInt8) (a b c d : Nat) (h : a + d ≤ b) : win (win s a b) c d = win s (a + c) (a + d) := by
  unfold win
  rw [List.drop_take, List.take_take, List.drop_drop, show a + d - (a + c) = d - c by omega, Nat.min_eq_left (by omega)]
theorem win_drop (s : List UInt8) (a c d : Nat) : win (s.drop a) c d = win s (a + c) (a + d) := by
  unfold win
  rw [List.drop_drop, show a + d - (a + c) = d - c by omega]
theorem win_at (s : List UInt8) (a b j : Nat) (h : a + j < b) : (win s a b)[j]? = s[a + j]? := by
  unfold win
  rw [List.getElem?_take, if_pos (by omega), List.getElem?_drop]
theorem drop_at (s : List UInt8) (a j : Nat) : (s.drop a)[j]? = s[a + j]? := List.getElem?_drop
end Ft
namespace Rs
/-- The offset's sign and size. -/
def zone (s : List UInt8) : Int := if s[19]? = some 45 then -(60 * Sc.fx s 20 22 + Sc.fx s 23 25) else 60 * Sc.fx s 20 22 + Sc.fx s 23 25
def loc (s : List UInt8) : Int := Sc.secs (Ft.win s 0 19) 45 84
def shape (s : List UInt8) : Prop := s.length = 25 ∧ s[22]? = some 58 ∧ (s[19]? = some 43 ∨ s[19]? = some 45)
def parts (s : List UInt8) : Prop := 0 ≤ loc s ∧ 0 ≤ Sc.fx s 20 22 ∧ 0 ≤ Sc.fx s 23 25 ∧ Sc.fx s 23 25 ≤ 59
def fine (s : List UInt8) : Prop := 60 * Sc.fx s 20 22 + Sc.fx s 23 25 ≤ 840 ∧ (0 ≤ loc s - 60 * zone s ∧ loc s - 60 * zone s ≤ 6311433599) ∧ ¬ (s[19]? = some 45 ∧ zone s = 0)
instance (s : List UInt8) : Decidable (shape s) := by unfold shape; infer_instance
instance (s : List UInt8) : Decidable (parts s) := by unfold parts; infer_instance
instance (s : List UInt8) : Decidable (fine s) := by unfold fine; infer_instance
/-- What a stamp says. -/
def val (s : List UInt8) : Option (Int × Int) := if shape s ∧ parts s ∧ fine s then some (loc s - 60 * zone s, zone s) else none
def outV (r : Option (Int × Int)) : Value := match r with
  | some (m, z) => .tuple #[.int .i64 m, .int .i64 z, .int .i64 0]
  | none => .tuple #[.int .i64 0, .int .i64 0, .int .i64 8]
theorem fx_dig {s : List UInt8} {a b : Nat} (h : 0 ≤ Sc.fx s a b) : Dg.allD (Ft.win s a b) = true ∧ Sc.fx s a b = (Dg.val (Ft.win s a b) : Int) := by
  unfold Sc.fx at h ⊢
  split at h
  · rename_i hd; rw [if_pos hd]; exact ⟨hd, rfl⟩
  · omega
theorem p2_back {s : List UInt8} {a b : Nat} (hl : (Ft.win s a b).length = 2) (h : 0 ≤ Sc.fx s a b) : Tx.P2 (Sc.fx s a b) = Tx.mk (Ft.win s a b) := by
  obtain ⟨h1, h2⟩ := fx_dig h
  rw [h2]; unfold Tx.P2; rw [Int.toNat_natCast, Dg.two_back hl h1]
theorem y4_back {s : List UInt8} {a b : Nat} (hl : (Ft.win s a b).length = 4) (h : 1000 ≤ Sc.fx s a b) : Tx.Y4 (Sc.fx s a b) = Tx.mk (Ft.win s a b) := by
  obtain ⟨h1, h2⟩ := fx_dig (s := s) (a := a) (b := b) (by omega)
  rw [h2] at h
  rw [h2]; unfold Tx.Y4; rw [Int.toNat_natCast, Dg.four_back hl h1 (by omega)]
theorem mk_inj {a b : List UInt8} (h : Tx.mk a = Tx.mk b) : a = b := by
  have := congrArg (fun x => x.data.toList) h
  simpa using this
/-- What is read is written back, but where a sign stands before nothing. -/
theorem back {s : List UInt8} (hs : shape s) (hp : parts s) (hz : 60 * Sc.fx s 20 22 + Sc.fx s 23 25 ≤ 840) {t : ByteArray} (ht : Tx.StampIs (loc s - 60 * zone s) (zone s) t) : t = Tx.mk s ↔ ¬ (s[19]? = some 45 ∧ zone s = 0) := by
  obtain ⟨hl, h22, hsg⟩ := hs
  obtain ⟨hp0, hp1, hp2, hp3⟩ := hp
  have hb0 := Sc.fx_bd s 20 22 (by omega)
  have wl : ∀ a b, b ≤ 25 → (Ft.win s a b).length = b - a := fun a b h => Ft.win_len s a b (by omega)
  have hW := wl 0 19 (by omega)
  have hlo : loc s = Sc.tell (Sc.fx s 0 4) (Sc.fx s 5 7) (Sc.fx s 8 10) (Sc.fx s 11 13) (Sc.fx s 14 16) (Sc.fx s 17 19) ∧ Sc.good (Ft.win s 0 19) 45 84 := by
    unfold loc Sc.secs at hp0 ⊢
    split at hp0
    · rename_i hg
      rw [if_pos hg]
      refine ⟨?_, hg⟩
      unfold Sc.fx
      rw [Ft.win_win s 0 19 0 4 (by omega), Ft.win_win s 0 19 5 7 (by omega), Ft.win_win s 0 19 8 10 (by omega), Ft.win_win s 0 19 11 13 (by omega), Ft.win_win s 0 19 14 16 (by omega), Ft.win_win s 0 19 17 19 (by omega)]
    · omega
  obtain ⟨hlo, _, g4, g7, g10, g13, g16⟩ := hlo
  rw [Ft.win_at s 0 19 4 (by omega), Nat.zero_add] at g4
  rw [Ft.win_at s 0 19 7 (by omega), Nat.zero_add] at g7
  rw [Ft.win_at s 0 19 10 (by omega), Nat.zero_add] at g10
  rw [Ft.win_at s 0 19 13 (by omega), Nat.zero_add] at g13
  rw [Ft.win_at s 0 19 16 (by omega), Nat.zero_add] at g16
  obtain ⟨y, m, d, hv, hn, rfl⟩ := ht
  have hq : loc s - 60 * zone s + 60 * zone s = loc s := by omega
  rw [hq] at hn ⊢
  rw [hlo] at hp0
  unfold Sc.tell at hlo hp0
  split at hp0
  · rename_i hh
    rw [if_pos hh] at hlo
    obtain ⟨hv', ⟨c1, c2⟩, ⟨c3, c4⟩, c5, c6⟩ := hh
    obtain ⟨v1, v2, v3, v4, v5, v6⟩ := (Cal.vld_iff _ _ _).1 hv'
    have e1 : Cal.num y m d = Cal.num (Sc.fx s 0 4) (Sc.fx s 5 7) (Sc.fx s 8 10) := by rw [hn, hlo]; omega
    obtain ⟨rfl, rfl, rfl⟩ := Cal.num_inj _ _ _ _ _ _ hv hv' e1
    have hmg : Tx.mag (zone s) = 60 * Sc.fx s 20 22 + Sc.fx s 23 25 := by unfold Tx.mag zone; split <;> omega
    have hd : loc s % 86400 = Sc.fx s 11 13 * 3600 + Sc.fx s 14 16 * 60 + Sc.fx s 17 19 := by rw [hlo]; omega
    have hj := fun a b c => Ft.win_join s (a := a) (b := b) (c := c)
    have es : Tx.mk s = Tx.mk (Ft.win s 0 19 ++ Ft.win s 19 20 ++ Ft.win s 20 25) := by
      rw [Ft.win_join s (by omega) (by omega), Ft.win_join s (by omega) (by omega), Ft.win_all s 25 hl]
    have e19 : Ft.win s 0 19 = Ft.win s 0 4 ++ [45] ++ Ft.win s 5 7 ++ [45] ++ Ft.win s 8 10 ++ [84] ++ Ft.win s 11 13 ++ [58] ++ Ft.win s 14 16 ++ [58] ++ Ft.win s 17 19 := by
      have w4 : Ft.win s 4 5 = [45] := Ft.win_one s 4 45 g4
      have w7 : Ft.win s 7 8 = [45] := Ft.win_one s 7 45 g7
      have w10 : Ft.win s 10 11 = [84] := Ft.win_one s 10 84 g10
      have w13 : Ft.win s 13 14 = [58] := Ft.win_one s 13 58 g13
      have w16 : Ft.win s 16 17 = [58] := Ft.win_one s 16 58 g16
      have e : Ft.win s 0 4 ++ Ft.win s 4 5 ++ Ft.win s 5 7 ++ Ft.win s 7 8 ++ Ft.win s 8 10 ++ Ft.win s 10 11 ++ Ft.win s 11 13 ++ Ft.win s 13 14 ++ Ft.win s 14 16 ++ Ft.win s 16 17 ++ Ft.win s 17 19 = Ft.win s 0 19 := by
        rw [hj 0 4 5 (by omega) (by omega), hj 0 5 7 (by omega) (by omega), hj 0 7 8 (by omega) (by omega), hj 0 8 10 (by omega) (by omega), hj 0 10 11 (by omega) (by omega), hj 0 11 13 (by omega) (by omega), hj 0 13 14 (by omega) (by omega), hj 0 14 16 (by omega) (by omega), hj 0 16 17 (by omega) (by omega), hj 0 17 19 (by omega) (by omega)]
      rw [w4, w7, w10, w13, w16] at e
      exact e.symm
    have e25 : Ft.win s 20 25 = Ft.win s 20 22 ++ [58] ++ Ft.win s 23 25 := by
      have w22 : Ft.win s 22 23 = [58] := Ft.win_one s 22 58 h22
      have e : Ft.win s 20 22 ++ Ft.win s 22 23 ++ Ft.win s 23 25 = Ft.win s 20 25 := by rw [hj 20 22 23 (by omega) (by omega), hj 20 23 25 (by omega) (by omega)]
      rw [w22] at e
      exact e.symm
    have eST : Tx.ST (Sc.fx s 0 4) (Sc.fx s 5 7) (Sc.fx s 8 10) (loc s % 86400) (zone s) = Tx.mk (Ft.win s 0 19 ++ (if zone s < 0 then [45] else [43]) ++ Ft.win s 20 25) := by
      rw [e19, e25]
      unfold Tx.ST Tx.LT Tx.D
      have q1 : loc s % 86400 / 3600 = Sc.fx s 11 13 := by omega
      have q2 : loc s % 86400 / 60 % 60 = Sc.fx s 14 16 := by omega
      have q3 : loc s % 86400 % 60 = Sc.fx s 17 19 := by omega
      have q4 : Tx.mag (zone s) / 60 = Sc.fx s 20 22 := by omega
      have q5 : Tx.mag (zone s) % 60 = Sc.fx s 23 25 := by omega
      have e45 : ByteArray.mk #[45] = Tx.mk [45] := rfl
      have e84 : ByteArray.mk #[84] = Tx.mk [84] := rfl
      have e58 : ByteArray.mk #[58] = Tx.mk [58] := rfl
      have esg : Tx.sgn (zone s) = Tx.mk (if zone s < 0 then [45] else [43]) := by unfold Tx.sgn; split <;> rfl
      rw [q1, q2, q3, q4, q5, esg, e45, e84, e58, y4_back (wl 0 4 (by omega)) (by omega), p2_back (wl 5 7 (by omega)) (by omega), p2_back (wl 8 10 (by omega)) (by omega), p2_back (wl 11 13 (by omega)) (by omega), p2_back (wl 14 16 (by omega)) (by omega), p2_back (wl 17 19 (by omega)) (by omega), p2_back (wl 20 22 (by omega)) (by omega), p2_back (wl 23 25 (by omega)) (by omega)]
      simp only [Tx.mk_append, List.append_assoc]
    rw [eST, es]
    have key : (Tx.mk (Ft.win s 0 19 ++ (if zone s < 0 then [45] else [43]) ++ Ft.win s 20 25) = Tx.mk (Ft.win s 0 19 ++ Ft.win s 19 20 ++ Ft.win s 20 25)) ↔ (if zone s < 0 then [45] else [43]) = Ft.win s 19 20 := by
      constructor
      · intro h
        have h1 := mk_inj h
        rw [List.append_assoc, List.append_assoc] at h1
        have h2 := List.append_cancel_left h1
        exact List.append_cancel_right h2
      · intro h; rw [h]
    rw [key]
    rcases hsg with h | h
    · rw [Ft.win_one s 19 43 h, h]
      have : ¬ zone s < 0 := by unfold zone; rw [if_neg (by rw [h]; decide)]; omega
      rw [if_neg this]
      simp
    · rw [Ft.win_one s 19 45 h, h]
      have hz0 : zone s = -(60 * Sc.fx s 20 22 + Sc.fx s 23 25) := by unfold zone; rw [if_pos h]
      by_cases c : zone s < 0
      · rw [if_pos c]; simp; omega
      · rw [if_neg c]; simp; omega
  · omega
end Rs
end Go.Proofs.YthldlffkgafgaaaDoor
