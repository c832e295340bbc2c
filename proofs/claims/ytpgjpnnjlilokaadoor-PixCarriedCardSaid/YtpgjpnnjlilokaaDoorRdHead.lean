/- readHead: the first line. -/
import Derived.Test.YtpgjpnnjlilokaaDoorRdRunR
namespace Go.Proofs.YtpgjpnnjlilokaaDoor
open Go.RowKit Go.Sort Go.Shelf
set_option linter.unusedVariables false
namespace Pr
def img : List UInt8 := [105, 109, 97, 103, 101]
/-- What the first line says. -/
def head (s : List UInt8) : Option (Nat × Nat) :=
  if Lib.hasPrefix s (img ++ [32]) = true ∧ (Lib.cut (Lib.trimPrefix s (img ++ [32])) [32]).2.2 = true then
    (num4 (Lib.cut (Lib.trimPrefix s (img ++ [32])) [32]).1).bind fun w => (num4 (Lib.cut (Lib.trimPrefix s (img ++ [32])) [32]).2.1).map fun h => (w, h)
  else none
theorem allD_space {a b : List UInt8} : Dg.allD (a ++ 32 :: b) = false := by
  rw [← Bool.not_eq_true]
  intro h
  have := (List.all_eq_true.1 (show (a ++ 32 :: b).all Dg.isD = true from h)) 32 (by simp)
  exact absurd this (by decide)
theorem num4_space {a b : List UInt8} : num4 (a ++ 32 :: b) = none := by unfold num4; rw [if_neg (fun h => by rw [allD_space] at h; exact absurd h.2.1 (by simp))]
theorem img_no : (32 : UInt8) ∉ img := by decide
theorem hasPrefix_img (s : List UInt8) : Lib.hasPrefix s (img ++ [32]) = true ↔ ∃ r, s = img ++ 32 :: r := by
  unfold Lib.hasPrefix
  rw [List.isPrefixOf_iff_prefix]
  constructor
  · rintro ⟨r, rfl⟩; exact ⟨r, by simp⟩
  · rintro ⟨r, rfl⟩; exact ⟨r, by simp⟩
/-- As the document takes it: three pieces between spaces. -/
theorem head_spl (s : List UInt8) : head s = match spl 32 s with
    | [p, a, b] => if p = img then (num4 a).bind fun w => (num4 b).map fun h => (w, h) else none
    | _ => none := by
  unfold head
  rw [spl_cut1]
  by_cases hp : Lib.hasPrefix s (img ++ [32]) = true
  · obtain ⟨r, rfl⟩ := (hasPrefix_img s).1 hp
    have ht : Lib.trimPrefix (img ++ 32 :: r) (img ++ [32]) = r := by unfold Lib.trimPrefix; rw [if_pos hp]; simp [img]
    rw [ht, cut1_append r img_no, cut_cut1]
    simp only [hp, true_and]
    rw [spl_cut1]
    cases hc : cut1 32 r with
    | none => simp
    | some q =>
      obtain ⟨a, d⟩ := q
      simp only [if_true]
      rw [spl_cut1]
      cases hd : cut1 32 d with
      | none => simp
      | some q2 =>
        obtain ⟨e, f⟩ := q2
        have h1 := cut1_len hd
        have hne := spl_ne 32 f
        simp only
        rw [h1, num4_space]
        cases hs : spl 32 f with
        | nil => exact absurd hs hne
        | cons x y => simp
  · rw [if_neg (fun h => hp h.1)]
    cases hc : cut1 32 s with
    | none => rfl
    | some q =>
      obtain ⟨a, d⟩ := q
      have hne := spl_ne 32 d
      simp only
      have ha : a ≠ img := by
        rintro rfl
        exact hp ((hasPrefix_img s).2 ⟨d, cut1_len hc⟩)
      cases hs : spl 32 d with
      | nil => exact absurd hs hne
      | cons x y =>
        match y with
        | [] => rfl
        | [z] => simp [ha]
        | z :: z' :: y' => rfl
end Pr
/-- What readHead returns. -/
def HeadPost (w : World) (r : Option (Nat × Nat)) (e : Ending) (w' : World) : Prop :=
  ∃ (x y : Nat) (ok : Bool), e = .returned (.tuple #[.int .i64 x, .int .i64 y, .bool ok]) ∧ r = (if ok then some (x, y) else none) ∧ (x < 10000 ∧ y < 10000) ∧ Below w.heap.size w w'
theorem cutPrefix_is (s p : List UInt8) (w : World) : Calls Tryd.prog 34 #[.string (Tx.mk s), .string (Tx.mk p)] w fun e w' => e = .returned (.tuple #[.string (Tx.mk (Lib.trimPrefix s p)), .bool (Lib.hasPrefix s p)]) ∧ w' = w :=
  Any.strings_CutPrefix { Lay.cutPrefixS with } (Tx.mk s) (Tx.mk p) w
set_option maxRecDepth 100000 in
set_option maxHeartbeats 2000000 in
theorem readHead_is (s : List UInt8) (hs : s.length ≤ 1000000) (w : World) (hm : Mx w) : Calls Tryd.prog 25 #[.string (Tx.mk s)] w (HeadPost w (Pr.head s)) := by
  have HP : Hid (∀ W, Calls Tryd.prog 34 #[.string (Tx.mk s), .string ⟨#[105, 109, 97, 103, 101, 32]⟩] W fun e w' => e = .returned (.tuple #[.string (Tx.mk (Lib.trimPrefix s (Pr.img ++ [32]))), .bool (Lib.hasPrefix s (Pr.img ++ [32]))]) ∧ w' = W) := fun W => cutPrefix_is s (Pr.img ++ [32]) W
  have hR : Hid (Pr.head s = _) := rfl
  unfold Pr.head at hR ⊢
  have hl : (Lib.trimPrefix s (Pr.img ++ [32])).length ≤ s.length := by unfold Lib.trimPrefix; split <;> simp
  generalize Lib.hasPrefix s (Pr.img ++ [32]) = B at *
  generalize Lib.trimPrefix s (Pr.img ++ [32]) = R at *
  clear hR
  have hlen := cut_len R [32]
  have HC := Lib.hid (fun V hV => cut_is R [32] (by omega) V hV)
  have HN1 := Lib.hid (fun W => number_is (Lib.cut R [32]).1 (by omega) W)
  have HN2 := Lib.hid (fun W => number_is (Lib.cut R [32]).2.1 (by omega) W)
  generalize (Lib.cut R [32]).1 = a at *
  generalize (Lib.cut R [32]).2.1 = b at *
  generalize (Lib.cut R [32]).2.2 = more at *
  unfold NumPost at HN1 HN2
  obtain ⟨ra, hra⟩ : ∃ r, Pr.num4 a = r := ⟨_, rfl⟩
  obtain ⟨rb, hrb⟩ : ∃ r, Pr.num4 b = r := ⟨_, rfl⟩
  have hla : ∀ n, ra = some n → n < 10000 := fun n h => Pr.num4_lt (hra.trans h)
  have hlb : ∀ n, rb = some n → n < 10000 := fun n h => Pr.num4_lt (hrb.trans h)
  rw [hra] at HN1 ⊢
  rw [hrb] at HN2 ⊢
  have HA : Hid (∀ (x y : Nat) (o1 o2 : Bool), ra.getD 0 = x → rb.getD 0 = y → ra.isSome = o1 → rb.isSome = o2 → ((if B = true ∧ more = true then ra.bind fun w => rb.map fun h => (w, h) else none) = (if (B && more && o1 && o2) then some (x, y) else none)) ∧ (x < 10000 ∧ y < 10000)) := by
    rintro x y o1 o2 rfl rfl rfl rfl
    cases ra with
    | none => cases rb with
      | none => cases B <;> cases more <;> simp
      | some v => have := hlb v rfl; cases B <;> cases more <;> simp <;> omega
    | some u => have := hla u rfl; cases rb with
      | none => cases B <;> cases more <;> simp <;> omega
      | some v => have := hlb v rfl; cases B <;> cases more <;> simp <;> omega
  obtain ⟨x, hx⟩ : ∃ x, ra.getD 0 = x := ⟨_, rfl⟩
  obtain ⟨y, hy⟩ : ∃ x, rb.getD 0 = x := ⟨_, rfl⟩
  obtain ⟨o1, ho1⟩ : ∃ x, ra.isSome = x := ⟨_, rfl⟩
  obtain ⟨o2, ho2⟩ : ∃ x, rb.isSome = x := ⟨_, rfl⟩
  have HE := Lib.hid (HA.out x y o1 o2 hx hy ho1 ho2)
  rw [hx, ho1] at HN1
  rw [hy, ho2] at HN2
  generalize (if B = true ∧ more = true then ra.bind fun w => rb.map fun h => (w, h) else none) = res at *
  clear HA hla hlb hra hrb hx hy ho1 ho2
  cases B <;> cases more <;> cases o1 <;> cases o2
  all_goals
    go_enter Tryd.func25, Tryd.ntmps25
    go_wp2_with (first
      | (go_at_call 34; (with_reducible refine (HP.out _).mono ?_); rintro e w2 ⟨rfl, rfl⟩)
      | (go_at_call 35; (with_reducible refine (HC.out _ hm).mono ?_); rintro e w3 ⟨rfl, hB3⟩)
      | (go_at_call 36; first | ((with_reducible refine (HN1.out _).mono ?_); rintro e w4 ⟨rfl, hB4⟩) | ((with_reducible refine (HN2.out _).mono ?_); rintro e w5 ⟨rfl, hB5⟩)))
    exact bodyPost_ret (v := .tuple #[.int .i64 x, .int .i64 y, .bool _]) (by simp [results, Tryd.results25, go_sem]) rfl ⟨x, y, _, rfl, HE.out.1, HE.out.2, below_up (below_up hB3 hB4) hB5⟩
end Go.Proofs.YtpgjpnnjlilokaaDoor
