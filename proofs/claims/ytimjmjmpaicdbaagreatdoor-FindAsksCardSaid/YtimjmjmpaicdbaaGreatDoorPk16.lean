/- Parts of the proof, no condition: TxLocal, TxStamp, DigMath, DigFix, DigLays, Digits, FtMath, DaysDateR, TxTld, FaOf. -/
import Derived.Test.YtimjmjmpaicdbaaGreatDoorPk15
import Derived.Test.YtimjmjmpaicdbaaGreatDoorPk1
import Derived.Lib.QuietBelow
import Derived.Lib.Atoi
import Derived.Lib.SlTrimSet
import Derived.Shelf.Strings.SlTrimAscii
import Derived.Shelf.Strconv.Atoi
import Derived.Test.YtimjmjmpaicdbaaGreatDoorProg
import Derived.Lib.ConvBytes
import Derived.Lib.AtoiErrMem
import Derived.Shelf.Abstract
import Derived.Laws.IdiomStrings
import Derived.Test.YtimjmjmpaicdbaaGreatDoorPk2
set_option maxRecDepth 100000
set_option maxHeartbeats 4000000
set_option linter.unusedSimpArgs false
set_option linter.unusedVariables false
namespace Go.Proofs.YtimjmjmpaicdbaaGreatDoor
open Go.RowKit Go.Sort Go.Shelf
namespace Tx
def D (y m d : Int) (sep : ByteArray) : ByteArray := Y4 y ++ sep ++ P2 m ++ sep ++ P2 d
def LT (y m d s : Int) (sep mid : ByteArray) : ByteArray := D y m d sep ++ mid ++ P2 (s / 3600) ++ ⟨#[58]⟩ ++ P2 (s / 60 % 60) ++ ⟨#[58]⟩ ++ P2 (s % 60)
theorem D_size {y m d : Int} {sep : ByteArray} (hy : 1900 ≤ y ∧ y ≤ 2099) (hm : 1 ≤ m ∧ m ≤ 12) (hd : 1 ≤ d ∧ d ≤ 31) (hs : sep.size = 1) : (D y m d sep).size = 10 := by
 unfold D
 simp only [ByteArray.size_append]
 rw [Y4_size (by omega) (by omega), P2_size (by omega) (by omega), P2_size (by omega) (by omega), hs]
end Tx
theorem dateText_is (y m d : Int) (sep : ByteArray) (hy : 1900 ≤ y ∧ y ≤ 2099) (hm : 1 ≤ m ∧ m ≤ 12) (hd : 1 ≤ d ∧ d ≤ 31) (hs : sep.size = 1) (w : World) (ht : Tx.Tab w) :
  Calls Tryz.prog 159 #[.agg #[.int .i64 y, .int .i64 m, .int .i64 d], .string sep] w fun e w' => e = .returned (.string (Tx.D y m d sep)) ∧ Below w.heap.size w w' := by
 obtain ⟨W1, hW1, hP, hz1, hB⟩ := box w #[.int .i64 y, .int .i64 m, .int .i64 d] 138
 have HW1 := Lib.hid hW1
 obtain ⟨c0, c1, c2⟩ := hP.three
 have ht1 := Tx.tab_below ht hB
 have HY : Hid (∀ d os, Calls Tryz.prog 192 #[.int .i64 y, .int .i64 4] (grow (redrawn W1 d) os) fun e w'' => e = .returned (.string (Tx.Y4 y)) ∧ ∃ p : Regrown, w'' = grow (redrawn W1 p.d) p.os) :=
  fun d os => Calls.regrown_of (padded4_is y (by omega) (by omega) _ (Tx.tab_below ht1 (below_regrown W1 d os)))
 have two : ∀ x : Int, 0 ≤ x → x < 100 → Hid (∀ d os, Calls Tryz.prog 192 #[.int .i64 x, .int .i64 2] (grow (redrawn W1 d) os) fun e w'' => e = .returned (.string (Tx.P2 x)) ∧ ∃ p : Regrown, w'' = grow (redrawn W1 p.d) p.os) :=
  fun x h0 h1 d os => Calls.regrown_of ((padded2_is x h0 h1 _).mono fun e w' ⟨he, hw⟩ => ⟨he, by rw [hw]; exact Below.refl _ _⟩)
 have HM := two m (by omega) (by omega)
 have HD := two d (by omega) (by omega)
 have ys := Tx.Y4_size (n := y) (by omega) (by omega)
 have ms := Tx.P2_size (n := m) (by omega) (by omega)
 have ds := Tx.P2_size (n := d) (by omega) (by omega)
 unfold Tx.D
 generalize Tx.Y4 y = A at *
 generalize Tx.P2 m = B at *
 generalize Tx.P2 d = E at *
 clear hW1 two ht ht1 hP hy hm hd
 go_enter Tryz.func159, Tryz.ntmps159
 go_wp2_with fail
 rw [HW1.out]
 have k0 := cell_regrown c0
 have k1 := cell_regrown c1
 have k2 := cell_regrown c2
 refine wp_region_quiet_below (by kernel_rfl) (by kernel_rfl) ?_
 repeat (go_big_quiet_step ((go_at_call 192; first | with_reducible exact HY.out _ _ | with_reducible exact HM.out _ _ | with_reducible exact HD.out _ _)))
 refine wpQuiet_nil ?_
 intro _ hw'
 obtain ⟨⟨dq, osq⟩, hw''⟩ := hw'
 subst hw''
 have hBw2 := below_regrown W1 dq osq
 generalize grow (redrawn W1 dq) osq = w2 at *
 clear dq osq
 go_wp2_with fail
 go_ret
 exact ⟨rfl, below_up hB hBw2⟩
theorem localText_is (l : Int) (sep mid : ByteArray) (hl : 0 ≤ l ∧ l ≤ 6311433599) (hs : sep.size = 1) (hm : mid.size = 1) (w : World) (ht : Tx.Tab w) :
  Calls Tryz.prog 175 #[.int .i64 l, .string sep, .string mid] w fun e w' => ∃ y m d : Int, Cal.vld y m d = true ∧ Cal.num y m d = l / 86400 ∧ e = .returned (.string (Tx.LT y m d (l % 86400) sep mid)) ∧ Below w.heap.size w w' := by
 have HDO := Lib.hid (dateOf_yes (l / 86400) w (by omega) (by omega))
 have HT := Lib.hid ht
 have two : ∀ x : Int, 0 ≤ x → x < 100 → Hid (∀ W, Calls Tryz.prog 192 #[.int .i64 x, .int .i64 2] W fun e w' => e = .returned (.string (Tx.P2 x)) ∧ w' = W) := fun x h0 h1 W => padded2_is x h0 h1 W
 have HH := two (l % 86400 / 3600) (by omega) (by omega)
 have HM := two (l % 86400 / 60 % 60) (by omega) (by omega)
 have HS := two (l % 86400 % 60) (by omega) (by omega)
 have hhs := Tx.P2_size (n := l % 86400 / 3600) (by omega) (by omega)
 have hms := Tx.P2_size (n := l % 86400 / 60 % 60) (by omega) (by omega)
 have hss := Tx.P2_size (n := l % 86400 % 60) (by omega) (by omega)
 unfold Tx.LT
 generalize Tx.P2 (l % 86400 / 3600) = A at *
 generalize Tx.P2 (l % 86400 / 60 % 60) = B at *
 generalize Tx.P2 (l % 86400 % 60) = E at *
 rw [show l % 86400 % 60 = l % 60 by omega] at HS
 clear two ht
 go_enter Tryz.func175, Tryz.ntmps175
 go_wp2_with (go_at_call 101; refine HDO.out.mono ?_; rintro e w1 ⟨y, m, d, hv, hn, rfl, hB⟩)
 obtain ⟨y1, y2, m1, m2, d1, d2⟩ := (Cal.vld_iff _ _ _).1 hv
 have d3 := Cal.len_bd y m
 have HDT := Lib.hid (fun W hb => dateText_is y m d sep ⟨y1, y2⟩ ⟨m1, m2⟩ ⟨d1, by omega⟩ hs W (Tx.tab_below (Tx.tab_below HT.out hB) hb))
 have hds := Tx.D_size (y := y) (m := m) (d := d) ⟨y1, y2⟩ ⟨m1, m2⟩ ⟨d1, by omega⟩ hs
 have HV := Lib.hid hv
 have HN := Lib.hid hn
 generalize hDD : Tx.D y m d sep = F at *
 clear d3 hv hn y1 y2 m1 m2 d1 d2
 go_at_call 159
 refine (HDT.out _ ((Below.refl _ _).alloc (Nat.le_refl _) _)).mono ?_
 rintro e w2 ⟨rfl, hB2⟩
 go_wp2_with (go_at_call 192; (first | (with_reducible refine (HH.out _).mono ?_) | (with_reducible refine (HM.out _).mono ?_) | (with_reducible refine (HS.out _).mono ?_)); rintro e w' ⟨rfl, rfl⟩)
 go_ret
 exact ⟨y, m, d, HV.out, HN.out, by rw [hDD]; rfl, below_up (hB.alloc hB.size _) hB2⟩
namespace Tx
def mag (z : Int) : Int := max z (-z)
def PlainIs (l : Int) (s : ByteArray) : Prop := ∃ y m d, Cal.vld y m d = true ∧ Cal.num y m d = l / 86400 ∧ s = LT y m d (l % 86400) ⟨#[58]⟩ ⟨#[32]⟩
end Tx
theorem plain_ok (l : Int) (h : 0 ≤ l ∧ l ≤ 6311433599) (w : World) (ht : Tx.Tab w) :
  Calls Tryz.prog 141 #[.int .i64 l] w fun e w' => ∃ s, Tx.PlainIs l s ∧ e = .returned (.tuple #[.string s, .int .i64 0]) ∧ Below w.heap.size w w' := by
 have HL := Lib.hid (localText_is l ⟨#[58]⟩ ⟨#[32]⟩ h rfl rfl w ht)
 have HM := Lib.hid ((Ev.mom_iff _).2 h)
 go_enter Tryz.func141, Tryz.ntmps141
 go_wp2_with (first | (go_at_call 100; refine (isMoment_is _ true HM.out _).mono ?_; rintro e w2 ⟨rfl, rfl⟩) | (go_at_call 175; refine HL.out.mono ?_; rintro e w2 ⟨y, m, d, hv, hn, rfl, hB⟩))
 go_ret2
 exact ⟨_, ⟨y, m, d, hv, hn, rfl⟩, rfl, hB⟩
end Go.Proofs.YtimjmjmpaicdbaaGreatDoor
namespace Go.Proofs.YtimjmjmpaicdbaaGreatDoor
namespace Dg
open Go.Lib
def isD (b : UInt8) : Bool := decide (48 ≤ b.toNat ∧ b.toNat ≤ 57)
def allD (l : List UInt8) : Bool := l.all isD
def valF (n : Nat) : List UInt8 → Nat
 | [] => n
 | b :: r => valF (10 * n + (b.toNat - 48)) r
def val (l : List UInt8) : Nat := valF 0 l
def digits : List UInt8 := [48, 49, 50, 51, 52, 53, 54, 55, 56, 57]
theorem decFrom_val (l : List UInt8) : ∀ n : Nat, allD l = true → decFrom n l = some (valF n l) := by
 induction l with
 | nil => intro n _; rfl
 | cons b r ih =>
   intro n h
   simp only [allD, List.all_cons, Bool.and_eq_true] at h
   have hb : 48 ≤ b.toNat ∧ b.toNat ≤ 57 := by simpa [isD] using h.1
   have e : digitVal b = some (b.toNat - 48) := by unfold digitVal; rw [if_pos hb]
   have := ih (n * 10 + (b.toNat - 48)) (by unfold allD; exact h.2)
   unfold decFrom valF
   rw [e, Nat.mul_comm 10 n]
   exact this
theorem atoi_val {l : List UInt8} (h0 : l ≠ []) (h : allD l = true) : atoi l = some (val l : Int) := by
 cases l with
 | nil => exact absurd rfl h0
 | cons b r =>
   have hb : isD b = true := by simp only [allD, List.all_cons, Bool.and_eq_true] at h; exact h.1
   have hb' := of_decide_eq_true hb
   have n1 : (b == 45) = false := by
    apply beq_eq_false_iff_ne.2; rintro rfl; revert hb; decide
   have n2 : (b == 43) = false := by
    apply beq_eq_false_iff_ne.2; rintro rfl; revert hb; decide
   rw [atoi, n1, n2]
   simp only [Bool.false_eq_true, if_false]
   rw [decNat, if_neg (by simp), decFrom_val _ _ h]
   rfl
end Dg
end Go.Proofs.YtimjmjmpaicdbaaGreatDoor
namespace Go.Proofs.YtimjmjmpaicdbaaGreatDoor
open Go.RowKit Go.Sort
namespace Dg
end Dg
end Go.Proofs.YtimjmjmpaicdbaaGreatDoor
namespace Go.Proofs.YtimjmjmpaicdbaaGreatDoor
open Go.Shelf
def Lay.atoiS_ren : Go.Shelf.Ren := ⟨fun | 172 => 142 | 244 => 176 | 245 => 177 | 247 => 211 | 279 => 212 | 280 => 213 | 281 => 214 | 282 => 215 | 287 => 236 | 316 => 237 | 171 => 28 | 205 => 238 | 321 => 253 | 322 => 254 | 243 => 75 | 246 => 112 | 283 => 165 | 284 => 166 | 285 => 167 | 286 => 168 | 129 => 199 | 317 => 198 | 318 => 200 | 319 => 201 | 320 => 202 | 337 => 226 | 338 => 227 | n => n, fun | 9 => 9 | 3 => 3 | 75 => 66 | 76 => 67 | 4 => 4 | 5 => 5 | 167 => 231 | 37 => 62 | 0 => 0 | 85 => 232 | 2 => 2 | 168 => 234 | 53 => 199 | 175 => 258 | 46 => 227 | 210 => 261 | 127 => 117 | 145 => 287 | 143 => 285 | 21 => 21 | 171 => 198 | 173 => 202 | 212 => 225 | 51 => 179 | 20 => 20 | 213 => 226 | 232 => 280 | 233 => 281 | 80 => 74 | n => n, fun | 15 => 2 | 16 => 3 | 17 => 1 | 18 => 4 | 19 => 5 | n => n⟩
theorem Lay.atoiS : Go.Proofs.Lays.n172 Tryz.prog Lay.atoiS_ren := {
 mixed := by kernel_rfl
 f129 := Tryz.func199.trans (congrArg some (by kernel_rfl))
 f171 := Tryz.func28.trans (congrArg some (by kernel_rfl))
 f172 := Tryz.func142.trans (congrArg some (by kernel_rfl))
 f205 := Tryz.func238.trans (congrArg some (by kernel_rfl))
 f243 := Tryz.func75.trans (congrArg some (by kernel_rfl))
 f244 := Tryz.func176.trans (congrArg some (by kernel_rfl))
 f245 := Tryz.func177.trans (congrArg some (by kernel_rfl))
 f246 := Tryz.func112.trans (congrArg some (by kernel_rfl))
 f247 := Tryz.func211.trans (congrArg some (by kernel_rfl))
 f279 := Tryz.func212.trans (congrArg some (by kernel_rfl))
 f280 := Tryz.func213.trans (congrArg some (by kernel_rfl))
 f281 := Tryz.func214.trans (congrArg some (by kernel_rfl))
 f282 := Tryz.func215.trans (congrArg some (by kernel_rfl))
 f283 := Tryz.func165.trans (congrArg some (by kernel_rfl))
 f284 := Tryz.func166.trans (congrArg some (by kernel_rfl))
 f285 := Tryz.func167.trans (congrArg some (by kernel_rfl))
 f286 := Tryz.func168.trans (congrArg some (by kernel_rfl))
 f287 := Tryz.func236.trans (congrArg some (by kernel_rfl))
 f316 := Tryz.func237.trans (congrArg some (by kernel_rfl))
 f317 := Tryz.func198.trans (congrArg some (by kernel_rfl))
 f318 := Tryz.func200.trans (congrArg some (by kernel_rfl))
 f319 := Tryz.func201.trans (congrArg some (by kernel_rfl))
 f320 := Tryz.func202.trans (congrArg some (by kernel_rfl))
 f321 := Tryz.func253.trans (congrArg some (by kernel_rfl))
 f322 := Tryz.func254.trans (congrArg some (by kernel_rfl))
 f337 := Tryz.func226.trans (congrArg some (by kernel_rfl))
 f338 := Tryz.func227.trans (congrArg some (by kernel_rfl))
 t0 := Tryz.underlying0
 a0 := Tryz.isAgg0
 z0 := Tryz.sizeOf0
 v0 := Tryz.zeroValue0
 t2 := Tryz.underlying2
 a2 := Tryz.isAgg2
 z2 := Tryz.sizeOf2
 v2 := Tryz.zeroValue2
 t3 := Tryz.underlying3
 a3 := Tryz.isAgg3
 z3 := Tryz.sizeOf3
 v3 := Tryz.zeroValue3
 t4 := Tryz.underlying4
 a4 := Tryz.isAgg4
 z4 := Tryz.sizeOf4
 v4 := Tryz.zeroValue4
 t5 := Tryz.underlying5
 a5 := Tryz.isAgg5
 z5 := Tryz.sizeOf5
 v5 := Tryz.zeroValue5
 t9 := Tryz.underlying9
 a9 := Tryz.isAgg9
 z9 := Tryz.sizeOf9
 v9 := Tryz.zeroValue9
 t20 := Tryz.underlying20
 a20 := Tryz.isAgg20
 z20 := Tryz.sizeOf20
 v20 := Tryz.zeroValue20
 t21 := Tryz.underlying21
 a21 := Tryz.isAgg21
 z21 := Tryz.sizeOf21
 v21 := Tryz.zeroValue21
 t37 := Tryz.underlying62
 a37 := Tryz.isAgg62
 z37 := Tryz.sizeOf62
 v37 := Tryz.zeroValue62
 t46 := Tryz.underlying227
 a46 := Tryz.isAgg227
 z46 := Tryz.sizeOf227
 v46 := Tryz.zeroValue227
 t51 := Tryz.underlying179
 a51 := Tryz.isAgg179
 z51 := Tryz.sizeOf179
 v51 := Tryz.zeroValue179
 t53 := Tryz.underlying199
 a53 := Tryz.isAgg199
 z53 := Tryz.sizeOf199
 v53 := Tryz.zeroValue199
 t75 := Tryz.underlying66
 a75 := Tryz.isAgg66
 z75 := Tryz.sizeOf66
 v75 := Tryz.zeroValue66
 t76 := Tryz.underlying67
 a76 := Tryz.isAgg67
 z76 := Tryz.sizeOf67
 v76 := Tryz.zeroValue67
 t85 := Tryz.underlying232
 a85 := Tryz.isAgg232
 z85 := Tryz.sizeOf232
 v85 := Tryz.zeroValue232
 t127 := Tryz.underlying117
 a127 := Tryz.isAgg117
 z127 := Tryz.sizeOf117
 v127 := Tryz.zeroValue117
 t143 := Tryz.underlying285
 a143 := Tryz.isAgg285
 z143 := Tryz.sizeOf285
 v143 := Tryz.zeroValue285
 t145 := Tryz.underlying287
 a145 := Tryz.isAgg287
 z145 := Tryz.sizeOf287
 v145 := Tryz.zeroValue287
 t167 := Tryz.underlying231
 a167 := Tryz.isAgg231
 z167 := Tryz.sizeOf231
 v167 := Tryz.zeroValue231
 t168 := Tryz.underlying234
 a168 := Tryz.isAgg234
 z168 := Tryz.sizeOf234
 v168 := Tryz.zeroValue234
 t171 := Tryz.underlying198
 a171 := Tryz.isAgg198
 z171 := Tryz.sizeOf198
 v171 := Tryz.zeroValue198
 t173 := Tryz.underlying202
 a173 := Tryz.isAgg202
 z173 := Tryz.sizeOf202
 v173 := Tryz.zeroValue202
 t175 := Tryz.underlying258
 a175 := Tryz.isAgg258
 z175 := Tryz.sizeOf258
 v175 := Tryz.zeroValue258
 t210 := Tryz.underlying261
 a210 := Tryz.isAgg261
 z210 := Tryz.sizeOf261
 v210 := Tryz.zeroValue261
 t212 := Tryz.underlying225
 a212 := Tryz.isAgg225
 z212 := Tryz.sizeOf225
 v212 := Tryz.zeroValue225
 t213 := Tryz.underlying226
 a213 := Tryz.isAgg226
 z213 := Tryz.sizeOf226
 t232 := Tryz.underlying280
 a232 := Tryz.isAgg280
 z232 := Tryz.sizeOf280
 v232 := Tryz.zeroValue280
 t233 := Tryz.underlying281
 a233 := Tryz.isAgg281
 z233 := Tryz.sizeOf281
 v233 := Tryz.zeroValue281
 g15 := by kernel_rfl
 g16 := by kernel_rfl
 g17 := by kernel_rfl
 g18 := by kernel_rfl
 g19 := by kernel_rfl }
end Go.Proofs.YtimjmjmpaicdbaaGreatDoor
namespace Go.Proofs.YtimjmjmpaicdbaaGreatDoor
open Go.RowKit Go.Sort Go.Shelf
theorem atoi_is (l : List UInt8) (h0 : l ≠ []) (h : Dg.allD l = true) (hl : l.length ≤ 18) (w : World) :
  Calls Tryz.prog 142 #[.string (Tx.mk l)] w fun e w' => e = .returned (.tuple #[.int .i64 (Dg.val l : Int), .nilIface]) ∧ Below w.heap.size w w' := by
 refine (Any.strconv_Atoi Lay.atoiS (Tx.mk l) (Dg.val l) (by rw [Tx.mk_size]; exact hl) (by rw [Tx.mk_toList]; exact Dg.atoi_val h0 h) w).mono ?_
 rintro e w' ⟨he, t, rfl⟩
 exact ⟨he, Lib.bytesWorld_below _ _ _⟩
end Go.Proofs.YtimjmjmpaicdbaaGreatDoor
namespace Go.Proofs.YtimjmjmpaicdbaaGreatDoor
namespace Ft
def win (s : List UInt8) (fr j : Nat) : List UInt8 := (s.drop fr).take (j - fr)
theorem win_len (s : List UInt8) (fr j : Nat) (h : j ≤ s.length) : (win s fr j).length = j - fr := by
 unfold win; rw [List.length_take, List.length_drop]; omega
def grp (s : List UInt8) (fr j : Nat) (acc : List Int) : Option (List Int) :=
 if fr < j then (if Dg.allD (win s fr j) = true then some (acc ++ [(Dg.val (win s fr j) : Int)]) else none) else some acc
def go (s form : List UInt8) : Nat → Nat → Nat → List Int → Option (List Int)
 | 0, _, _, acc => some acc
 | k + 1, j, fr, acc =>
   if form[j]? = some 48 then go s form k (j + 1) fr acc
   else (grp s fr j acc).bind fun acc' => if j < form.length ∧ s[j]? ≠ form[j]? then none else go s form k (j + 1) (j + 1) acc'
theorem go_num {s form : List UInt8} {k j fr : Nat} {acc : List Int} (h : form[j]? ≠ some 48) (h1 : fr < j) (h2 : Dg.allD (win s fr j) = true) (h3 : ¬ (j < form.length ∧ s[j]? ≠ form[j]?)) : go s form (k + 1) j fr acc = go s form k (j + 1) (j + 1) (acc ++ [(Dg.val (win s fr j) : Int)]) := by
 rw [go, if_neg h]; unfold grp; rw [if_pos h1, if_pos h2, Option.bind_some, if_neg h3]
def Few (form : List UInt8) : Prop := form.length ≤ 18 ∨ (form.length ≤ 19 ∧ ∃ p, p < form.length ∧ form[p]? ≠ some 48)
theorem few {form : List UInt8} (h : Few form) {fr j : Nat} (hj : j ≤ form.length) (hf : fr ≤ j) (ha : ∀ k, fr ≤ k → k < j → form[k]? = some 48) : j - fr ≤ 18 := by
 rcases h with h | ⟨h, p, hp, hn⟩
 ·omega
 ·by_cases c : fr ≤ p ∧ p < j
  ·exact absurd (ha p c.1 c.2) hn
  ·omega
end Ft
theorem ext_mk (s : List UInt8) (fr j : Nat) : (Tx.mk s).extract fr j = Tx.mk (Ft.win s fr j) := by
 apply ByteArray.ext
 unfold Ft.win
 simp [ByteArray.data_extract]
end Go.Proofs.YtimjmjmpaicdbaaGreatDoor
namespace Go.Proofs.YtimjmjmpaicdbaaGreatDoor
open Go.RowKit Go.Sort
theorem vld_first (y m : Int) (h1 : 1900 ≤ y) (h2 : y ≤ 2099) (h3 : 1 ≤ m) (h4 : m ≤ 12) : Cal.vld y m 1 = true := by
 have := Cal.len_bd y m
 exact (Cal.vld_iff _ _ _).2 ⟨h1, h2, h3, h4, by omega, by omega⟩
theorem num_first (y m : Int) : Cal.num y m 1 = Cal.bef y + Cal.cum y m := by unfold Cal.num; omega
theorem vld_2100 (y : Int) (h : 2099 < y) : Cal.vld y 1 1 = false := by
 simp only [Cal.vld, decide_eq_false_iff_not]; omega
theorem dayFor_first (y m : Int) (w : World) (h1 : 1900 ≤ y) (h2 : y ≤ 2099) (h3 : 1 ≤ m) (h4 : m ≤ 12) :
  Calls Tryz.prog 152 #[.agg #[.int .i64 y, .int .i64 m, .int .i64 1]] w fun e w' => e = .returned (.int .i64 (Cal.bef y + Cal.cum y m)) ∧ Below w.heap.size w w' := by
 rw [← num_first]; exact dayFor_yes y m 1 w (vld_first y m h1 h2 h3 h4)
theorem dayFor_new (y : Int) (w : World) (h1 : 1900 ≤ y) (h2 : y ≤ 2099) :
  Calls Tryz.prog 152 #[.agg #[.int .i64 y, .int .i64 1, .int .i64 1]] w fun e w' => e = .returned (.int .i64 (Cal.bef y)) ∧ Below w.heap.size w w' := by
 have := dayFor_first y 1 w h1 h2 (by omega) (by omega)
 rwa [Cal.cum_1, Int.add_zero] at this
theorem dateFor_any (n : Int) (w : World) (h1 : 0 ≤ n) (h2 : n ≤ 73048) :
  Calls Tryz.prog 96 #[.int .i64 n] w fun e w' => ∃ y m d : Int, Cal.vld y m d = true ∧ Cal.num y m d = n ∧ e = .returned (.agg #[.int .i64 y, .int .i64 m, .int .i64 d]) ∧ Below w.heap.size w w' := by
 go_enter Tryz.func96, Tryz.ntmps96
 go_wp2_with fail
 go_loopg [] 199 (fun gk wr => ∃ y : Int, 1900 ≤ y ∧ y ≤ 2099 ∧ Cal.bef y ≤ n ∧ gk = (2099 - y).toNat ∧ Blk wr (w.heap.size + 1) #[.int .i64 y, .int .i64 1, .int .i64 1] 138 ∧
     Blk wr w.heap.size #[.int .i64 0, .int .i64 0, .int .i64 0] 138 ∧ Below w.heap.size w wr)
 case atStart => exact ⟨1900, by omega, by omega, by rw [Cal.bef_1900]; omega, rfl, by have := Blk.new (w.alloc (.cells #[.int .i64 0, .int .i64 0, .int .i64 0] 138)) #[.int .i64 1900, .int .i64 1, .int .i64 1] 138; simpa using this, (Blk.new _ _ _).alloc _, ((Below.refl _ _).alloc (Nat.le_refl _) _).alloc (by simp) _⟩
 case round =>
  obtain ⟨y, hy1, hy2, hy3, rfl, hD, hR, hB⟩ := hrel
  have hb := bef_bd y hy1 (by omega)
  have hb1 := bef_bd (y + 1) (by omega) (by omega)
  obtain ⟨c0, c1, c2⟩ := hD.three
  have cf := hD.free
  by_cases hc : Cal.bef (y + 1) ≤ n
  ·have hy4 := bef_lt n (y + 1) hc h2
   go_wp2_with (go_at_call 152; refine (dayFor_new _ _ (by omega) (by omega)).mono ?_; rintro e w' ⟨rfl, hB3⟩; have hD := hD.keep hB3; have hR := hR.keep hB3; have hB := below_up hB hB3; obtain ⟨c0, c1, c2⟩ := hD.three; have cf := hD.free; obtain ⟨r0, r1, r2⟩ := hR.three; have rf := hR.free)
   go_roundg (2099 - (y + 1)).toNat
   case rel => exact ⟨y + 1, by omega, by omega, hc, rfl, by have := hD.set 0 (.int .i64 (y + 1)); simpa using this, hR.setOther (by simp) _, hB.setCell (by simp) _⟩
   case measure => omega
  ·by_cases hy5 : y ≤ 2098
   all_goals
    first
     | (have hy6 : y ≤ 2098 := hy5; go_wp2_with (go_at_call 152; refine (dayFor_new _ _ (by omega) (by omega)).mono ?_; rintro e w' ⟨rfl, hB3⟩; have hD := hD.keep hB3; have hR := hR.keep hB3; have hB := below_up hB hB3; obtain ⟨c0, c1, c2⟩ := hD.three; have cf := hD.free; obtain ⟨r0, r1, r2⟩ := hR.three; have rf := hR.free))
     | (go_wp2_with (go_at_call 152; refine (dayFor_no _ _ _ _ (vld_2100 _ (by omega))).mono ?_; rintro e w' ⟨rfl, hB3⟩; have hD := hD.keep hB3; have hR := hR.keep hB3; have hB := below_up hB hB3; obtain ⟨c0, c1, c2⟩ := hD.three; have cf := hD.free; obtain ⟨r0, r1, r2⟩ := hR.three; have rf := hR.free))
    have hs := Lib.hid (Cal.bef_succ y)
    have hc' : n < Cal.bef (y + 1) := by omega
    clear hc hy5 hb1
    go_loopg [] 11 (fun gk wr => ∃ m : Int, 1 ≤ m ∧ m ≤ 12 ∧ Cal.bef y + Cal.cum y m ≤ n ∧ gk = (12 - m).toNat ∧ Blk wr (w.heap.size + 1) #[.int .i64 y, .int .i64 m, .int .i64 1] 138 ∧
     Blk wr w.heap.size #[.int .i64 0, .int .i64 0, .int .i64 0] 138 ∧ Below w.heap.size w wr)
    case atStart => exact ⟨1, by omega, by omega, by rw [Cal.cum_1]; omega, rfl, hD, hR, hB⟩
    case round =>
     obtain ⟨m, hm1, hm2, hm3, rfl, hD, hR, hB⟩ := hrel
     have hbd := Cal.cum_bd y m hm1 (by omega)
     have hn := Cal.len_bd y m
     have hl := Cal.lp_01 y
     obtain ⟨c0, c1, c2⟩ := hD.three
     have cf := hD.free
     by_cases hm : m < 12
     ·have hbd' := Cal.cum_bd y (m + 1) (by omega) (by omega)
      by_cases hc : Cal.bef y + Cal.cum y (m + 1) ≤ n
      ·go_wp2_with (go_at_call 152; refine (dayFor_first _ _ _ (by omega) (by omega) (by omega) (by omega)).mono ?_; rintro e w' ⟨rfl, hB3⟩; have hD := hD.keep hB3; have hR := hR.keep hB3; have hB := below_up hB hB3; obtain ⟨c0, c1, c2⟩ := hD.three; have cf := hD.free; obtain ⟨r0, r1, r2⟩ := hR.three; have rf := hR.free)
       go_roundg (12 - (m + 1)).toNat
       case rel => exact ⟨m + 1, by omega, by omega, hc, rfl, by have := hD.set 1 (.int .i64 (m + 1)); simpa using this, hR.setOther (by simp) _, hB.setCell (by simp) _⟩
       case measure => omega
      ·have hcs := Lib.hid (Cal.cum_succ y m hm1 hm2)
       go_wp2_with (go_at_call 152; refine (dayFor_first _ _ _ (by omega) (by omega) (by omega) (by omega)).mono ?_; rintro e w' ⟨rfl, hB3⟩; have hD := hD.keep hB3; have hR := hR.keep hB3; have hB := below_up hB hB3; obtain ⟨c0, c1, c2⟩ := hD.three; have cf := hD.free; obtain ⟨r0, r1, r2⟩ := hR.three; have rf := hR.free)
       have hnn : n < Cal.bef y + Cal.cum y (m + 1) := by omega
       have hF := (((hR.setOther (a := ⟨w.heap.size + 1, 2, none⟩) (by simp) (.int .i64 (n - (Cal.bef y + Cal.cum y m) + 1))).set 0 (.int .i64 y)).set 1 (.int .i64 m)).set 2 (.int .i64 (n - (Cal.bef y + Cal.cum y m) + 1))
       obtain ⟨f0, f1, f2⟩ := Blk.three (by simpa using hF)
       have hcs' := hcs.out
       refine bodyPost_ret (v := .agg #[.int .i64 y, .int .i64 m, .int .i64 (n - (Cal.bef y + Cal.cum y m) + 1)]) (by simp [results, Tryz.results96, go_sem, f0, f1, f2]) rfl ⟨y, m, _, ?_, ?_, rfl, ?_⟩
       ·exact (Cal.vld_iff _ _ _).2 ⟨by omega, by omega, hm1, hm2, by omega, by omega⟩
       ·unfold Cal.num; omega
       ·exact (((hB.setCell (by simp) _).setCell (Nat.le_refl _) _).setCell (Nat.le_refl _) _).setCell (Nat.le_refl _) _
     ·have hcs := Lib.hid (Cal.cum_succ y m hm1 hm2)
      have hnn : n < Cal.bef y + Cal.cum y (m + 1) := by
       obtain rfl : m = 12 := by omega
       rw [show (12 : Int) + 1 = 13 from rfl, Cal.cum_13]; have := hs.out; omega
      go_wp2_with (go_at_call 152; refine (dayFor_first _ _ _ (by omega) (by omega) (by omega) (by omega)).mono ?_; rintro e w' ⟨rfl, hB3⟩; have hD := hD.keep hB3; have hR := hR.keep hB3; have hB := below_up hB hB3; obtain ⟨c0, c1, c2⟩ := hD.three; have cf := hD.free; obtain ⟨r0, r1, r2⟩ := hR.three; have rf := hR.free)
      have hF := (((hR.setOther (a := ⟨w.heap.size + 1, 2, none⟩) (by simp) (.int .i64 (n - (Cal.bef y + Cal.cum y m) + 1))).set 0 (.int .i64 y)).set 1 (.int .i64 m)).set 2 (.int .i64 (n - (Cal.bef y + Cal.cum y m) + 1))
      obtain ⟨f0, f1, f2⟩ := Blk.three (by simpa using hF)
      have hcs' := hcs.out
      refine bodyPost_ret (v := .agg #[.int .i64 y, .int .i64 m, .int .i64 (n - (Cal.bef y + Cal.cum y m) + 1)]) (by simp [results, Tryz.results96, go_sem, f0, f1, f2]) rfl ⟨y, m, _, ?_, ?_, rfl, ?_⟩
      ·exact (Cal.vld_iff _ _ _).2 ⟨by omega, by omega, hm1, hm2, by omega, by omega⟩
      ·unfold Cal.num; omega
      ·exact (((hB.setCell (by simp) _).setCell (Nat.le_refl _) _).setCell (Nat.le_refl _) _).setCell (Nat.le_refl _) _
namespace Tx
open Go.Lib
theorem dig1 {n : Nat} (h : n < 10) : decDigits n = [UInt8.ofNat (48 + n)] := by rw [decDigits, dif_pos h]
theorem digs {n : Nat} (h : 10 ≤ n) : decDigits n = decDigits (n / 10) ++ [UInt8.ofNat (48 + n % 10)] := by rw [decDigits, dif_neg (by omega)]
end Tx
theorem told_is (i : Nat) (h1 : i ≤ 9223372036854775807) (w : World) :
  Calls Tryz.prog 36 #[.int .i64 i] w fun e w' => e = .returned (.string (Tx.mk (Lib.decDigits i))) ∧ Below w.heap.size w w' := by
 have hdl := Tx.dl_le i h1
 go_enter Tryz.func36, Tryz.ntmps36
 go_wp2_with fail
 go_loopg [0, 3] i (fun gk a s wr => ∃ (k : Nat) (l : List UInt8), gk = k ∧ a = .int .i64 k ∧ s = .string (Tx.mk l) ∧ k ≤ i ∧ Lib.decDigits i = Lib.decDigits k ++ l ∧ Below w.heap.size w wr)
 case atStart => exact ⟨i, [], rfl, rfl, rfl, by omega, by simp, Below.refl _ _⟩
 case round =>
  obtain ⟨_, l, rfl, rfl, rfl, hki, hl, hB⟩ := hrel
  have hll : l.length ≤ 19 := by have := congrArg List.length hl; rw [List.length_append] at this; unfold Tx.dl at hdl; omega
  have hd : (UInt8.ofNat (48 + gk % 10)).toNat = 48 + gk % 10 := by simp only [UInt8.toNat_ofNat']; omega
  have hconv : (convert 62 9 (.slice (some ⟨wr.heap.size, 0, none⟩) 1 1)).run Tryz.prog (wr.alloc (.cells #[.int .u8 (48 + (gk : Int) % 10)] 5)) = .ok (.string (Tx.mk [UInt8.ofNat (48 + gk % 10)])) (wr.alloc (.cells #[.int .u8 (48 + (gk : Int) % 10)] 5)) :=
   run_convert_bytes_back _ 62 9 5 ⟨wr.heap.size, 0, none⟩ 1 [UInt8.ofNat (48 + gk % 10)] Tryz.underlying62 Tryz.underlying5 Tryz.underlying9 (fun j hj => by
    obtain rfl : j = 0 := by simpa using hj
    refine ((Blk.new wr #[.int .u8 (48 + (gk : Int) % 10)] 5).one).trans ?_
    simp only [List.getElem_cons_zero, hd]; rfl)
  have hcat : ∀ W, (Op.stringOp .add (Tx.mk [UInt8.ofNat (48 + gk % 10)]) (Tx.mk l)).run Tryz.prog W = .ok (.string (Tx.mk (UInt8.ofNat (48 + gk % 10) :: l))) W := fun W => by
   rw [run_string_add_sum W _ _ (by rw [Tx.mk_size, Tx.mk_size]; simp; omega), Tx.mk_append]; rfl
  have HL := Lib.hid hl
  have hB2 := hB.alloc hB.size (.cells #[.int .u8 (48 + (gk : Int) % 10)] 5)
  generalize Tx.mk [UInt8.ofNat (48 + gk % 10)] = D at *
  generalize hm : Tx.mk l = M at *
  generalize hm2 : Tx.mk (UInt8.ofNat (48 + gk % 10) :: l) = M2 at *
  have HM2 := Lib.hid hm2
  clear hm2 hl hd
  by_cases hk : gk < 10
  ·have hk0 : (gk : Int) / 10 = 0 := by omega
   have HE : Hid (Lib.decDigits i = UInt8.ofNat (48 + gk % 10) :: l) := by
    show _ = _
    rw [HL.out, Tx.dig1 hk, Nat.mod_eq_of_lt hk]; rfl
   go_wp2_with fail
   go_ret
   exact ⟨by rw [HE.out, HM2.out]; rfl, hB2⟩
  ·have HE : Hid (Lib.decDigits i = Lib.decDigits (gk / 10) ++ UInt8.ofNat (48 + gk % 10) :: l) := by
    show _ = _
    rw [HL.out, Tx.digs (by omega), List.append_assoc]; rfl
   go_wp2_with fail
   go_roundg (gk / 10)
   case rel => exact ⟨gk / 10, _, rfl, by go_num, by rw [← HM2.out], by omega, HE.out, hB2⟩
   case measure => omega
end Go.Proofs.YtimjmjmpaicdbaaGreatDoor
namespace Go.Proofs.YtimjmjmpaicdbaaGreatDoor
open Go.RowKit Go.Sort Go.Shelf
namespace Fa
noncomputable def yrOf (l : Int) : Int := open Classical in if h : ∃ y m d : Int, Cal.vld y m d = true ∧ Cal.num y m d = l / 86400 then Classical.choose h else 0
theorem yrOf_is {l y m d : Int} (hv : Cal.vld y m d = true) (hn : Cal.num y m d = l / 86400) : yrOf l = y := by
 have h : ∃ y m d : Int, Cal.vld y m d = true ∧ Cal.num y m d = l / 86400 := ⟨y, m, d, hv, hn⟩
 unfold yrOf
 rw [dif_pos h]
 obtain ⟨m', d', hv', hn'⟩ := Classical.choose_spec h
 exact (Cal.num_inj _ _ _ _ _ _ hv' hv (hn'.trans hn.symm)).1
noncomputable def its (k : Int) (p : Ph) : List It :=
 if k = 1 then (List.range p.tn).map (fun i => (0, p.tag i))
 else if k = 2 then (if p.mom < 0 then [] else [(yrOf (p.mom + 60 * p.zone), ⟨#[]⟩)])
 else if k = 3 then [(p.stars, ⟨#[]⟩)]
 else (List.range p.pn).map (fun i => (p.who i, ⟨#[]⟩))
structure Good (p : Ph) : Prop where
 mom : -1 ≤ p.mom ∧ p.mom ≤ 6311433599
 zone : -840 ≤ p.zone ∧ p.zone ≤ 840
 loc : 0 ≤ p.mom → 0 ≤ p.mom + 60 * p.zone ∧ p.mom + 60 * p.zone ≤ 6311433599
 stars : 0 ≤ p.stars ∧ p.stars ≤ 5
 tn : p.tn ≤ 20
 pn : p.pn ≤ 20
 who : ∀ i, i < p.pn → 1 ≤ p.who i ∧ p.who i ≤ 1000000
theorem good_of {p : Ph} (h : p.err = 0) : Good p := by
 unfold Ph.err at h
 split at h
 ·split at h
  ·split at h
   ·rename_i hw
    unfold Fd.whenB at hw
    have hw := of_decide_eq_true hw
    split at h
    ·omega
    ·split at h
     ·omega
     ·split at h
      ·rename_i hs
       unfold Fd.shapeB at hs
       have hs := of_decide_eq_true hs
       unfold Ph.words at h
       split at h
       ·omega
       ·split at h
        ·split at h
         ·omega
         ·split at h
          ·split at h
           ·omega
           ·refine ⟨hw.1, hw.2.1, hw.2.2, hs.2.2.2, by omega, by omega, fun i hi => ?_⟩
            have g := Fd.scan_all 0 h i (by omega) (by omega)
            unfold Fd.pbad at g
            split at g
            ·assumption
            ·cases g
          ·omega
        ·rename_i hne; exact absurd h hne
      ·omega
   ·omega
  ·omega
 ·omega
theorem dig1 (k : Nat) (h : k < 10) : (UInt8.ofNat (48 + k)).toNat = 48 + k := by simp only [UInt8.toNat_ofNat']; omega
theorem pad4_ex (n : Int) (h0 : 1000 ≤ n) (h : n < 10000) : ∃ p q r t : UInt8, Tx.Y4 n = Tx.mk [p, q, r, t] ∧ Dg.allD [p, q, r, t] = true ∧ (Dg.val [p, q, r, t] : Int) = n := by
 have e : Tx.pad n.toNat 4 = [UInt8.ofNat (48 + n.toNat / 1000), UInt8.ofNat (48 + n.toNat / 100 % 10), UInt8.ofNat (48 + n.toNat / 10 % 10), UInt8.ofNat (48 + n.toNat % 10)] := by
  rw [Tx.pad_big (by rw [Tx.dl_four (by omega) (by omega)]; exact Nat.le_refl _), digsN (by omega : 10 ≤ n.toNat), digsN (by omega : 10 ≤ n.toNat / 10), digsN (by omega : 10 ≤ n.toNat / 10 / 10), digs1 (by omega)]
  have e1 : n.toNat / 10 / 10 / 10 = n.toNat / 1000 := by omega
  have e2 : n.toNat / 10 / 10 % 10 = n.toNat / 100 % 10 := by omega
  rw [e1, e2]; rfl
 refine ⟨_, _, _, _, by unfold Tx.Y4; rw [e], ?_, ?_⟩
 ·have t1 := dig1 (n.toNat / 1000) (by omega)
  have t2 := dig1 (n.toNat / 100 % 10) (by omega)
  have t3 := dig1 (n.toNat / 10 % 10) (by omega)
  have t4 := dig1 (n.toNat % 10) (by omega)
  simp only [Dg.allD, List.all_cons, List.all_nil, Bool.and_true, Bool.and_eq_true, Dg.isD, decide_eq_true_eq]
  omega
 ·have t1 := dig1 (n.toNat / 1000) (by omega)
  have t2 := dig1 (n.toNat / 100 % 10) (by omega)
  have t3 := dig1 (n.toNat / 10 % 10) (by omega)
  have t4 := dig1 (n.toNat % 10) (by omega)
  show ((10 * (10 * (10 * (10 * 0 + ((UInt8.ofNat (48 + n.toNat / 1000)).toNat - 48)) + ((UInt8.ofNat (48 + n.toNat / 100 % 10)).toNat - 48)) + ((UInt8.ofNat (48 + n.toNat / 10 % 10)).toNat - 48)) + ((UInt8.ofNat (48 + n.toNat % 10)).toNat - 48) : Nat) : Int) = n
  omega
def Beg (a : ByteArray) (l : List UInt8) : Prop := ∃ r, a = Tx.mk (l ++ r)
theorem Beg.of {l : List UInt8} : Beg (Tx.mk l) l := ⟨[], by rw [List.append_nil]⟩
theorem Beg.add {a : ByteArray} {l : List UInt8} (h : Beg a l) (b : ByteArray) : Beg (a ++ b) l := by
 obtain ⟨r, rfl⟩ := h
 refine ⟨r ++ b.data.toList, ?_⟩
 have e : b = Tx.mk b.data.toList := by apply ByteArray.ext; simp [Tx.mk]
 have : Tx.mk (l ++ r) ++ b = Tx.mk (l ++ r) ++ Tx.mk b.data.toList := by rw [← e]
 rw [this, Tx.mk_append, List.append_assoc]
end Fa
theorem yearOf_is (l : Int) (h : 0 ≤ l ∧ l ≤ 6311433599) (w : World) (ht : Tx.Tab w) : Calls Tryz.prog 83 #[.int .i64 l] w fun e w' => e = .returned (.int .i64 (Fa.yrOf l)) ∧ Below w.heap.size w w' := by
 have HP := Lib.hid (plain_ok l h w ht)
 obtain ⟨Y, hY⟩ : ∃ Y, Fa.yrOf l = Y := ⟨_, rfl⟩
 rw [hY]
 have HY := Lib.hid hY
 clear hY ht
 go_enter Tryz.func83, Tryz.ntmps83
 go_upto_region 2 with (go_at_call 141; (with_reducible refine HP.out.mono ?_); rintro e w3 ⟨s, hs, rfl, hB3⟩)
 obtain ⟨y, m, d, hv, hn, hs⟩ := hs
 obtain ⟨y1, y2, _⟩ := (Cal.vld_iff _ _ _).1 hv
 obtain ⟨p, q, r, t, hy4, had, hval⟩ := Fa.pad4_ex y (by omega) (by omega)
 have hYy : Y = y := by rw [← HY.out]; exact Fa.yrOf_is hv hn
 have hbeg : Fa.Beg s [p, q, r, t] := by
  rw [hs]
  unfold Tx.LT Tx.D
  rw [hy4]
  exact (((((((((Fa.Beg.of.add _).add _).add _).add _).add _).add _).add _).add _).add _).add _
 obtain ⟨rest, hsr⟩ := hbeg
 have hx : (Tx.mk ([p, q, r, t] ++ rest)).extract 0 4 = Tx.mk [p, q, r, t] := by rw [ext_mk]; rfl
 have hsz : (Tx.mk ([p, q, r, t] ++ rest)).size = rest.length + 4 := by rw [Tx.mk_size, List.length_append]; simp; omega
 have HA := Lib.hid (fun W => atoi_is [p, q, r, t] (by simp) had (by simp) W)
 rw [hval] at HA
 have h4 : (4 : Int) ≤ (rest.length : Int) + 4 := by omega
 have h4' : 4 ≤ rest.length + 4 := by omega
 rw [hsr]
 clear hs hsr hv hn hy4 had hval
 generalize Tx.mk [p, q, r, t] = s4 at *
 generalize Tx.mk ([p, q, r, t] ++ rest) = s' at *
 go_wp2_with (go_at_call 142; (with_reducible refine (HA.out _).mono ?_); rintro e w4 ⟨rfl, hB4⟩)
 go_ret
 exact ⟨ret_int hYy.symm, below_up hB3 hB4⟩
def Fa.itE : Enc Fa.It := ⟨2, fun x => [.int .i64 x.1, .string x.2], fun _ => rfl, fun x u h => by simp only [List.mem_cons, List.not_mem_nil, or_false] at h; rcases h with rfl | rfl <;> rfl⟩
theorem infoCt : (Tryz.prog.info? 89).map (fun i => (i.zero, i.size, i.bytes)) = some (some (.agg #[.int .i64 0, .string ByteArray.empty]), 2, 24) := by kernel_rfl
theorem cell_ct_new (w : World) (x y : Value) (t : TypeId) : ∀ j u, [x, y][j]? = some u → (w.alloc (.cells #[x, y] t)).cell? ((⟨w.heap.size, 0, none⟩ : Addr).add j) = some u := by
 intro j u hj
 rw [show (⟨w.heap.size, 0, none⟩ : Addr).add j = ⟨w.heap.size, j, none⟩ from by unfold Addr.add; split <;> simp_all, (Blk.new w #[x, y] t).cell]
 simpa using hj
def RowPost {α : Type} (E : Enc α) (w : World) (L : List α) (e : Ending) (w' : World) : Prop :=
 ∃ (a : Option Addr) (ca : Nat), e = .returned (.slice a L.length ca) ∧ L.length ≤ ca ∧ ca ≤ 9223372036854775807 ∧ RowE E w' a L ∧ Below w.heap.size w w'
theorem RowPost.own {α : Type} {E : Enc α} {w w' : World} {B n : Nat} {t : TypeId} {v : Value} {L : List α} (h : w'.ownsRow B t E.k v n (E.flat L)) (hn : n = L.length) (hb : Below w.heap.size w w') : RowPost E w L (.returned v) w' := by
 obtain ⟨a, ca, rfl, h1, h2, h3⟩ := RowE.of_own (OwnV.of_own h) hn
 exact ⟨a, ca, rfl, h1, h2, h3, hb⟩
theorem facetsOf_1 (p : Ph) (hg : Fa.Good p) (w : World) (hI : p.In w) : Calls Tryz.prog 41 #[.agg #[.int .i64 p.id, .string p.file, .int .i64 p.mom, .int .i64 p.zone, .slice p.wa p.wn p.wc, .int .i64 p.W, .int .i64 p.H, .int .i64 p.turn, .int .i64 p.stars, .slice p.ta p.tn p.tc, .string p.cap, .slice p.pa p.pn p.pc, .bool p.hid], .int .i64 1] w (RowPost Fa.itE w (Fa.its 1 p)) := by
 rw [show Fa.its 1 p = (List.range p.tn).map (fun i => ((0 : Int), p.tag i)) from rfl]
 obtain ⟨i0, hi0, hy0, hy1, hy2⟩ := info_parts infoCt
 have HI0 := Lib.hid hi0; have HI1 := Lib.hid hy0; have HI2 := Lib.hid hy1; have HI3 := Lib.hid hy2
 clear hi0 hy0 hy1 hy2
 obtain ⟨W1, hW1, hP, hz1, hB1⟩ := bxP w p
 have HW1 := Lib.hid hW1
 clear hW1 hz1
 obtain ⟨q0, q1, q2, q3, q4, q5, q6, q7, q8, q9, q10, q11, q12⟩ := hP.photo
 have HT := Lib.hid hI.tags
 have HB1 := Lib.hid hB1
 have htn := hg.tn
 have hB1 := HB1.out
 clear hI hg
 go_enter Tryz.func41, Tryz.ntmps41
 go_upto_region 3 with fail
 rw [HW1.out]
 go_wp2_with fail
 go_loopg [5, 16] p.tn (fun gk v i wr => ∃ j : Nat, j ≤ p.tn ∧ gk = p.tn - j ∧ i = .int .i64 j ∧ wr.ownsRow w.heap.size 89 2 v j (Fa.itE.flat ((fun k => (List.range k).map (fun i => ((0 : Int), p.tag i))) j)) ∧ Below w.heap.size w wr)
 case atStart => exact ⟨0, by omega, rfl, rfl, World.ownsRow_nil _ _ _ _, hB1⟩
 case round =>
  obtain ⟨j, hj, rfl, rfl, hown, hB⟩ := hrel
  have hsz := hB.size
  by_cases hlt : j < p.tn
  ·obtain ⟨b, off, hpa, hb, hcell⟩ := (HT.out.keep hB) (by omega)
   have d0 := hcell j hlt
   have HOWN := Lib.hid hown
   have HY : Hid ((fun k => (List.range k).map (fun i => ((0 : Int), p.tag i))) (j + 1) = (fun k => (List.range k).map (fun i => ((0 : Int), p.tag i))) j ++ [((0 : Int), p.tag j)]) := Lib.hid (by simp [List.range_succ])
   have hj1 : (j : Int) < ((p.tn : Nat) : Int) := by omega
   clear hcell hown
   rw [hpa]
   go_wp2_with (at_builtin; refine wpList_append_own2 _ rfl _ _ 86 rfl w.heap.size 89 i0 (.agg #[.int .i64 0, .string ByteArray.empty]) 2 24 Tryz.underlying86 HI0.out HI1.out HI2.out HI3.out rfl (by decide) _ _ _ rfl (HOWN.out.alloc _) ⟨wr.heap.size, 0, none⟩ 1 1 (Fa.itE.cells (((0 : Int), p.tag j))) rfl (by decide) rfl (cell_ct_new _ _ _ _) (Fa.itE.one _) (by unfold maxLen; omega) (by omega) (by simp; omega) ?_; intro g8 cap8 w8 hown8 hgrow8 hnew8)
   have HOWN8 := Lib.hid hown8
   have HB8 := Lib.hid ((below_allocs hB (.cells (Fa.itE.cells (((0 : Int), p.tag j))).toArray 89)).grown hgrow8 (by simp; omega) (fun k e => (HOWN.out.lt k e).1))
   clear hown8 hgrow8 hnew8
   rw [← hpa]
   go_roundg (p.tn - (j + 1))
   case rel => exact ⟨j + 1, by omega, rfl, by go_num, by rw [HY.out, Fa.itE.flat_snoc]; exact HOWN8.out, HB8.out⟩
   case measure => omega
  ·obtain rfl : j = p.tn := by omega
   have hjn : ¬ (((p.tn : Nat) : Int) < ((p.tn : Nat) : Int)) := by omega
   have HOWN := Lib.hid hown
   obtain ⟨vv, hvv⟩ : ∃ vv, u5 = vv := ⟨_, rfl⟩
   rw [hvv] at HOWN ⊢
   clear hown hvv
   go_wp2_with fail
   go_ret
   exact RowPost.own HOWN.out (by simp) hB
theorem facetsOf_4 (p : Ph) (hg : Fa.Good p) (w : World) (hI : p.In w) : Calls Tryz.prog 41 #[.agg #[.int .i64 p.id, .string p.file, .int .i64 p.mom, .int .i64 p.zone, .slice p.wa p.wn p.wc, .int .i64 p.W, .int .i64 p.H, .int .i64 p.turn, .int .i64 p.stars, .slice p.ta p.tn p.tc, .string p.cap, .slice p.pa p.pn p.pc, .bool p.hid], .int .i64 4] w (RowPost Fa.itE w (Fa.its 4 p)) := by
 rw [show Fa.its 4 p = (List.range p.pn).map (fun i => (p.who i, (⟨#[]⟩ : ByteArray))) from rfl]
 obtain ⟨i0, hi0, hy0, hy1, hy2⟩ := info_parts infoCt
 have HI0 := Lib.hid hi0; have HI1 := Lib.hid hy0; have HI2 := Lib.hid hy1; have HI3 := Lib.hid hy2
 clear hi0 hy0 hy1 hy2
 obtain ⟨W1, hW1, hP, hz1, hB1⟩ := bxP w p
 have HW1 := Lib.hid hW1
 clear hW1 hz1
 obtain ⟨q0, q1, q2, q3, q4, q5, q6, q7, q8, q9, q10, q11, q12⟩ := hP.photo
 have HT := Lib.hid hI.people
 have HB1 := Lib.hid hB1
 have htn := hg.pn
 have hB1 := HB1.out
 clear hI hg
 go_enter Tryz.func41, Tryz.ntmps41
 go_upto_region 3 with fail
 rw [HW1.out]
 go_wp2_with fail
 go_loopg [5, 51] p.pn (fun gk v i wr => ∃ j : Nat, j ≤ p.pn ∧ gk = p.pn - j ∧ i = .int .i64 j ∧ wr.ownsRow w.heap.size 89 2 v j (Fa.itE.flat ((fun k => (List.range k).map (fun i => (p.who i, (⟨#[]⟩ : ByteArray)))) j)) ∧ Below w.heap.size w wr)
 case atStart => exact ⟨0, by omega, rfl, rfl, World.ownsRow_nil _ _ _ _, hB1⟩
 case round =>
  obtain ⟨j, hj, rfl, rfl, hown, hB⟩ := hrel
  have hsz := hB.size
  by_cases hlt : j < p.pn
  ·obtain ⟨b, off, hpa, hb, hcell⟩ := (HT.out.keep hB) (by omega)
   have d0 := hcell j hlt
   have HOWN := Lib.hid hown
   have HY : Hid ((fun k => (List.range k).map (fun i => (p.who i, (⟨#[]⟩ : ByteArray)))) (j + 1) = (fun k => (List.range k).map (fun i => (p.who i, (⟨#[]⟩ : ByteArray)))) j ++ [(p.who j, (⟨#[]⟩ : ByteArray))]) := Lib.hid (by simp [List.range_succ])
   have hj1 : (j : Int) < ((p.pn : Nat) : Int) := by omega
   clear hcell hown
   rw [hpa]
   go_wp2_with (at_builtin; refine wpList_append_own2 _ rfl _ _ 86 rfl w.heap.size 89 i0 (.agg #[.int .i64 0, .string ByteArray.empty]) 2 24 Tryz.underlying86 HI0.out HI1.out HI2.out HI3.out rfl (by decide) _ _ _ rfl (HOWN.out.alloc _) ⟨wr.heap.size, 0, none⟩ 1 1 (Fa.itE.cells ((p.who j, (⟨#[]⟩ : ByteArray)))) rfl (by decide) rfl (cell_ct_new _ _ _ _) (Fa.itE.one _) (by unfold maxLen; omega) (by omega) (by simp; omega) ?_; intro g8 cap8 w8 hown8 hgrow8 hnew8)
   have HOWN8 := Lib.hid hown8
   have HB8 := Lib.hid ((below_allocs hB (.cells (Fa.itE.cells ((p.who j, (⟨#[]⟩ : ByteArray)))).toArray 89)).grown hgrow8 (by simp; omega) (fun k e => (HOWN.out.lt k e).1))
   clear hown8 hgrow8 hnew8
   rw [← hpa]
   go_roundg (p.pn - (j + 1))
   case rel => exact ⟨j + 1, by omega, rfl, by go_num, by rw [HY.out, Fa.itE.flat_snoc]; exact HOWN8.out, HB8.out⟩
   case measure => omega
  ·obtain rfl : j = p.pn := by omega
   have hjn : ¬ (((p.pn : Nat) : Int) < ((p.pn : Nat) : Int)) := by omega
   have HOWN := Lib.hid hown
   obtain ⟨vv, hvv⟩ : ∃ vv, u5 = vv := ⟨_, rfl⟩
   rw [hvv] at HOWN ⊢
   clear hown hvv
   go_wp2_with fail
   go_ret
   exact RowPost.own HOWN.out (by simp) hB
theorem facetsOf_3 (p : Ph) (hg : Fa.Good p) (w : World) (hI : p.In w) : Calls Tryz.prog 41 #[.agg #[.int .i64 p.id, .string p.file, .int .i64 p.mom, .int .i64 p.zone, .slice p.wa p.wn p.wc, .int .i64 p.W, .int .i64 p.H, .int .i64 p.turn, .int .i64 p.stars, .slice p.ta p.tn p.tc, .string p.cap, .slice p.pa p.pn p.pc, .bool p.hid], .int .i64 3] w (RowPost Fa.itE w (Fa.its 3 p)) := by
 rw [show Fa.its 3 p = [(p.stars, (⟨#[]⟩ : ByteArray))] from rfl]
 obtain ⟨i0, hi0, hy0, hy1, hy2⟩ := info_parts infoCt
 have HI0 := Lib.hid hi0; have HI1 := Lib.hid hy0; have HI2 := Lib.hid hy1; have HI3 := Lib.hid hy2
 clear hi0 hy0 hy1 hy2
 obtain ⟨W1, hW1, hP, hz1, hB1⟩ := bxP w p
 have HW1 := Lib.hid hW1
 clear hW1 hz1
 obtain ⟨q0, q1, q2, q3, q4, q5, q6, q7, q8, q9, q10, q11, q12⟩ := hP.photo
 have HB1 := Lib.hid hB1
 have hs1 := hB1.size
 have HN : Hid (W1.ownsRow w.heap.size 89 2 (.slice none 0 0) 0 []) := Lib.hid (World.ownsRow_nil _ _ _ _)
 clear hI hg
 go_enter Tryz.func41, Tryz.ntmps41
 go_upto_region 3 with fail
 rw [HW1.out]
 go_wp2_with (at_builtin; refine wpList_append_own2 _ rfl _ _ 86 rfl w.heap.size 89 i0 (.agg #[.int .i64 0, .string ByteArray.empty]) 2 24 Tryz.underlying86 HI0.out HI1.out HI2.out HI3.out rfl (by decide) _ _ _ rfl (HN.out.alloc _) ⟨W1.heap.size, 0, none⟩ 1 1 (Fa.itE.cells (p.stars, (⟨#[]⟩ : ByteArray))) rfl (by decide) rfl (cell_ct_new _ _ _ _) (Fa.itE.one _) (by unfold maxLen; omega) (by omega) (by simp; omega) ?_; intro g8 cap8 w8 hown8 hgrow8 hnew8)
 have HB8 := Lib.hid ((below_allocs HB1.out (.cells (Fa.itE.cells (p.stars, (⟨#[]⟩ : ByteArray))).toArray 89)).grown hgrow8 (by simp; omega) (fun k e => (HN.out.lt k e).1))
 go_ret
 exact RowPost.own (L := [(p.stars, (⟨#[]⟩ : ByteArray))]) hown8 rfl HB8.out
theorem facetsOf_2 (p : Ph) (hg : Fa.Good p) (w : World) (hI : p.In w) (ht : Tx.Tab w) : Calls Tryz.prog 41 #[.agg #[.int .i64 p.id, .string p.file, .int .i64 p.mom, .int .i64 p.zone, .slice p.wa p.wn p.wc, .int .i64 p.W, .int .i64 p.H, .int .i64 p.turn, .int .i64 p.stars, .slice p.ta p.tn p.tc, .string p.cap, .slice p.pa p.pn p.pc, .bool p.hid], .int .i64 2] w (RowPost Fa.itE w (Fa.its 2 p)) := by
 rw [show Fa.its 2 p = (if p.mom < 0 then [] else [(Fa.yrOf (p.mom + 60 * p.zone), (⟨#[]⟩ : ByteArray))]) from rfl]
 obtain ⟨i0, hi0, hy0, hy1, hy2⟩ := info_parts infoCt
 have HI0 := Lib.hid hi0; have HI1 := Lib.hid hy0; have HI2 := Lib.hid hy1; have HI3 := Lib.hid hy2
 clear hi0 hy0 hy1 hy2
 obtain ⟨W1, hW1, hP, hz1, hB1⟩ := bxP w p
 have HW1 := Lib.hid hW1
 clear hW1 hz1
 obtain ⟨q0, q1, q2, q3, q4, q5, q6, q7, q8, q9, q10, q11, q12⟩ := hP.photo
 have HB1 := Lib.hid hB1
 have hs1 := hB1.size
 have HN : Hid (W1.ownsRow w.heap.size 89 2 (.slice none 0 0) 0 []) := Lib.hid (World.ownsRow_nil _ _ _ _)
 by_cases hm : p.mom < 0
 ·rw [if_pos hm]
  clear hI hg ht
  go_enter Tryz.func41, Tryz.ntmps41
  go_upto_region 3 with fail
  rw [HW1.out]
  go_wp2_with fail
  go_ret
  exact RowPost.own (L := ([] : List Fa.It)) HN.out rfl HB1.out
 ·rw [if_neg hm]
  have HL := Lib.hid (fun W => localP_is p W ⟨by omega, hg.mom.2⟩ hg.zone)
  have HY := Lib.hid (fun W (hb : Below w.heap.size w W) => yearOf_is (p.mom + 60 * p.zone) (hg.loc (by omega)) W (Tx.tab_below ht hb))
  generalize Fa.yrOf (p.mom + 60 * p.zone) = y at *
  clear hI hg ht
  go_enter Tryz.func41, Tryz.ntmps41
  go_upto_region 3 with fail
  rw [HW1.out]
  go_wp2_with (first
   | (go_at_call 84; (with_reducible refine (HL.out _).mono ?_); rintro e w3 ⟨rfl, hB3⟩; have hB3w := below_up HB1.out hB3)
   | (go_at_call 83; (with_reducible refine (HY.out _ hB3w).mono ?_); rintro e w4 ⟨rfl, hB4⟩; have hB4w := below_up hB3w hB4; have hs4 := hB4w.size; have HN : Hid (w4.ownsRow w.heap.size 89 2 (.slice none 0 0) 0 []) := Lib.hid (World.ownsRow_nil _ _ _ _))
   | (at_builtin; refine wpList_append_own2 _ rfl _ _ 86 rfl w.heap.size 89 i0 (.agg #[.int .i64 0, .string ByteArray.empty]) 2 24 Tryz.underlying86 HI0.out HI1.out HI2.out HI3.out rfl (by decide) _ _ _ rfl (HN.out.alloc _) ⟨w4.heap.size, 0, none⟩ 1 1 (Fa.itE.cells (y, (⟨#[]⟩ : ByteArray))) rfl (by decide) rfl (cell_ct_new _ _ _ _) (Fa.itE.one _) (by unfold maxLen; omega) (by omega) (by simp; omega) ?_; intro g8 cap8 w8 hown8 hgrow8 hnew8))
  have HB8 := Lib.hid ((below_allocs hB4w (.cells (Fa.itE.cells (y, (⟨#[]⟩ : ByteArray))).toArray 89)).grown hgrow8 (by simp; omega) (fun k e => (HN.out.lt k e).1))
  go_ret
  exact RowPost.own (L := [(y, (⟨#[]⟩ : ByteArray))]) hown8 rfl HB8.out
theorem facetsOfF_is (k : Int) (hk : 1 ≤ k ∧ k ≤ 4) (p : Ph) (hg : Fa.Good p) (w : World) (hI : p.In w) (ht : Tx.Tab w) : Calls Tryz.prog 41 #[.agg #[.int .i64 p.id, .string p.file, .int .i64 p.mom, .int .i64 p.zone, .slice p.wa p.wn p.wc, .int .i64 p.W, .int .i64 p.H, .int .i64 p.turn, .int .i64 p.stars, .slice p.ta p.tn p.tc, .string p.cap, .slice p.pa p.pn p.pc, .bool p.hid], .int .i64 k] w (RowPost Fa.itE w (Fa.its k p)) := by
 have : k = 1 ∨ k = 2 ∨ k = 3 ∨ k = 4 := by omega
 rcases this with rfl | rfl | rfl | rfl
 ·exact facetsOf_1 p hg w hI
 ·exact facetsOf_2 p hg w hI ht
 ·exact facetsOf_3 p hg w hI
 ·exact facetsOf_4 p hg w hI
end Go.Proofs.YtimjmjmpaicdbaaGreatDoor
