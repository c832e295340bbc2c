/- The law PixNear, walked. -/
import Derived.Test.YtbbedepojogfmaaGrpLaw
import Derived.Test.YtbbedepojogfmaaNearMath
namespace Go.Proofs.Ytbbedepojogfmaa
open Go.RowKit Go.Sort Go.Shelf
set_option linter.unusedVariables false
set_option maxRecDepth 100000 in
set_option maxHeartbeats 4000000 in
theorem pixNear_err (x y z : Nat) (hx : x < 18446744073709551616) (hy : y < 18446744073709551616) (hz : z < 18446744073709551616) (a : Option Addr) (n ca : Nat) (h : Nat → Nat) (most : Int) (w : World) (hr : Row w a n (fun i => .int .u64 (h i : Nat))) (hb : ∀ i, i < n → h i < 18446744073709551616) (hn : n ≤ 9223372036854775807) (q : Int) (hq : q ≠ 0) (hG : Calls Try.prog 30 #[.slice a n ca, .int .i64 most] w fun e w' => e = .returned (.tuple #[.slice none 0 0, .int .i64 q]) ∧ w = w') :
    Calls Try.prog 6 #[.int .u64 x, .int .u64 y, .int .u64 z, .slice a n ca, .int .i64 most] w fun e w' => e = .returned (.bool true) ∧ Below w.heap.size w w' := by
  -- the distances of three hashes;  what decides whether the first two are equal
  have HAB := Lib.hid (fun W => distance_is x y hx hy W)
  have HBA := Lib.hid (fun W => distance_is y x hy hx W)
  have HAC := Lib.hid (fun W => distance_is x z hx hz W)
  have HBC := Lib.hid (fun W => distance_is y z hy hz W)
  have hab := Pop.dist_comm y x
  rw [hab] at HBA
  have htri := Pop.dist_tri x y z
  have hzero := Pop.dist_zero hx hy
  have d1 := Pop.dist_le x y; have d2 := Pop.dist_le x z; have d3 := Pop.dist_le y z
  clear hab
  generalize Pop.dist x y = ab at *
  generalize Pop.dist x z = ac at *
  generalize Pop.dist y z = bc at *
  have ht1 : ¬ ((ab : Int) + (bc : Int) < (ac : Int)) := by omega
  have heq : ((ab : Int) == 0) = ((x : Int) == (y : Int)) := by
    rw [Bool.eq_iff_iff]; simp only [beq_iff_eq]; omega
  obtain ⟨be, hbe⟩ : ∃ be, ((x : Int) == (y : Int)) = be := ⟨_, rfl⟩
  rw [hbe] at heq
  clear hzero htri
  have HG := Lib.hid hG
  have hq1 : (q == 0) = false := by simpa using hq
  have hq2 : (q != 0) = true := by simpa using hq
  clear hr hb hG hq hx hy hz
  cases be
  · go_enter Try.func6, Try.ntmps6
    go_wp2_with (first | (go_at_call 28; refine (awake_is _).mono ?_; rintro e w' ⟨rfl, rfl⟩) | (go_at_call 29; (with_reducible refine (HAB.out _).mono ?_); rintro e w' ⟨rfl, rfl⟩) | (go_at_call 29; (with_reducible refine (HBA.out _).mono ?_); rintro e w' ⟨rfl, rfl⟩) | (go_at_call 29; (with_reducible refine (HAC.out _).mono ?_); rintro e w' ⟨rfl, rfl⟩) | (go_at_call 29; (with_reducible refine (HBC.out _).mono ?_); rintro e w' ⟨rfl, rfl⟩) | (go_at_call 30; refine HG.out.mono ?_; rintro e w1 ⟨rfl, rfl⟩))
    go_ret
    exact ⟨rfl, Below.refl _ _⟩
  · go_enter Try.func6, Try.ntmps6
    go_wp2_with (first | (go_at_call 28; refine (awake_is _).mono ?_; rintro e w' ⟨rfl, rfl⟩) | (go_at_call 29; (with_reducible refine (HAB.out _).mono ?_); rintro e w' ⟨rfl, rfl⟩) | (go_at_call 29; (with_reducible refine (HBA.out _).mono ?_); rintro e w' ⟨rfl, rfl⟩) | (go_at_call 29; (with_reducible refine (HAC.out _).mono ?_); rintro e w' ⟨rfl, rfl⟩) | (go_at_call 29; (with_reducible refine (HBC.out _).mono ?_); rintro e w' ⟨rfl, rfl⟩) | (go_at_call 30; refine HG.out.mono ?_; rintro e w1 ⟨rfl, rfl⟩))
    go_ret
    exact ⟨rfl, Below.refl _ _⟩
set_option maxRecDepth 100000 in
set_option maxHeartbeats 16000000 in
theorem pixNear_ok (x y z : Nat) (hx : x < 18446744073709551616) (hy : y < 18446744073709551616) (hz : z < 18446744073709551616) (a : Option Addr) (n ca : Nat) (h : Nat → Nat) (most : Int) (w : World) (hr : Row w a n (fun i => .int .u64 (h i : Nat))) (hb : ∀ i, i < n → h i < 18446744073709551616) (hn : n ≤ 9223372036854775807) (hl : ¬ 1000 < n) (hm : 0 ≤ most ∧ most ≤ 64) :
    Calls Try.prog 6 #[.int .u64 x, .int .u64 y, .int .u64 z, .slice a n ca, .int .i64 most] w fun e w' => e = .returned (.bool true) ∧ Below w.heap.size w w' := by
  have HG := Lib.hid (groups_is a n ca h most w hr hb hn hl hm)
  -- the distances of three hashes;  what decides whether the first two are equal
  have HAB := Lib.hid (fun W => distance_is x y hx hy W)
  have HBA := Lib.hid (fun W => distance_is y x hy hx W)
  have HAC := Lib.hid (fun W => distance_is x z hx hz W)
  have HBC := Lib.hid (fun W => distance_is y z hy hz W)
  have hab := Pop.dist_comm y x
  rw [hab] at HBA
  have htri := Pop.dist_tri x y z
  have hzero := Pop.dist_zero hx hy
  have d1 := Pop.dist_le x y; have d2 := Pop.dist_le x z; have d3 := Pop.dist_le y z
  clear hab
  generalize Pop.dist x y = ab at *
  generalize Pop.dist x z = ac at *
  generalize Pop.dist y z = bc at *
  have ht1 : ¬ ((ab : Int) + (bc : Int) < (ac : Int)) := by omega
  have heq : ((ab : Int) == 0) = ((x : Int) == (y : Int)) := by
    rw [Bool.eq_iff_iff]; simp only [beq_iff_eq]; omega
  obtain ⟨be, hbe⟩ : ∃ be, ((x : Int) == (y : Int)) = be := ⟨_, rfl⟩
  rw [hbe] at heq
  clear hzero htri
  obtain ⟨i0, hi0, hz0, hz1, hz2⟩ := info_parts infoInt
  have hmk : ∀ w', (Instr.makeSlice 29 (.int .i64 (n : Int)) (.int .i64 (n : Int))).run Try.prog w' = .ok (.slice (some ⟨w'.heap.size, 0, none⟩) n n) (w'.alloc (.cells (rowOf n fun _ => .int .i64 0) 3)) := by
    intro w'
    rw [run_make w' _ 3 i0 _ Try.underlying29 hi0 hz0 .i64 .i64 _ _ (by omega) (Int.le_refl _) (by rw [hz2]; omega) (by omega), Int.toNat_natCast]
    congr 3
    exact made_rowOf i0 n (.int .i64 0) rfl hz1
  have HR := Lib.hid hr; have HB := Lib.hid hb
  have HSY := Lib.hid (Grp.near_comm h most)
  clear hr hb hx hy hz hi0 hz0 hz1 hz2 hm
  obtain ⟨nr, hnr⟩ : ∃ nr, Grp.near h most = nr := ⟨_, rfl⟩
  rw [hnr] at HSY HG
  have HNR := Lib.hid hnr; clear hnr
  cases be
  · go_enter Try.func6, Try.ntmps6
    go_wp2_with (first | (go_at_call 28; refine (awake_is _).mono ?_; rintro e w' ⟨rfl, rfl⟩) | (go_at_call 29; (with_reducible refine (HAB.out _).mono ?_); rintro e w' ⟨rfl, rfl⟩) | (go_at_call 29; (with_reducible refine (HBA.out _).mono ?_); rintro e w' ⟨rfl, rfl⟩) | (go_at_call 29; (with_reducible refine (HAC.out _).mono ?_); rintro e w' ⟨rfl, rfl⟩) | (go_at_call 29; (with_reducible refine (HBC.out _).mono ?_); rintro e w' ⟨rfl, rfl⟩) | (go_at_call 30; refine HG.out.mono ?_; rintro e w1 ⟨a1, ca1, vs, rfl, hL1, hB1⟩; have HL1 := Lib.hid hL1; clear hL1))
    have HVL := Lib.hid HL1.out.len
    obtain ⟨W3, hW3, hBt, hz3, hB3⟩ := box w1 (rowOf n fun _ => .int .i64 0) 3
    rw [hW3]
    have hN0 : Nms W3 w1.heap.size n (fun _ => 0) := hBt
    clear hW3 hBt hz3
    go_loopg [68] vs.length (fun gk iv wr => ∃ (t : Nat) (F : Nat → Nat), t ≤ vs.length ∧ gk = vs.length - t ∧ iv = .int .i64 t ∧ Grp.Numb n (Grp.groups n nr n) F t [] 0 ∧ Nms wr w1.heap.size n F ∧ Below w1.heap.size w1 wr)
    case atStart => exact ⟨0, _, by omega, rfl, rfl, Grp.Numb.start n _, hN0, hB3⟩
    case round =>
      clear hN0 hB3
      obtain ⟨t, F, ht, rfl, rfl, hNb, hN, hB⟩ := hrel
      have HNB := Lib.hid hNb; clear hNb
      have hvn : vs.length ≤ n := by have h1 := HVL.out; rw [List.length_map] at h1; have h2 := Grp.groups_len n nr n; omega
      by_cases hlt : t < vs.length
      · have hLk := HL1.out.keep hB
        obtain ⟨v, hv⟩ : ∃ v, vs[t]? = some v := ⟨_, List.getElem?_eq_getElem hlt⟩
        obtain ⟨g, hg⟩ : ∃ g, (Grp.groups n nr n)[t]? = some g := ⟨_, List.getElem?_eq_getElem (by have h1 := HVL.out; rw [List.length_map] at h1; omega)⟩
        obtain ⟨b1, c1, rfl, hr1⟩ := hLk.each t v (Grp.ints g) hv (by rw [List.getElem?_map, hg]; rfl)
        obtain ⟨bx, ox, rfl, hbx, hcx⟩ := hLk.row (by omega)
        have cx : wr.cell? ⟨bx, ox + t, none⟩ = some (.slice b1 (Grp.ints g).length c1) := by have := hcx t hlt; simp only [hv] at this; exact this
        rw [Grp.ints_len] at cx
        obtain ⟨f, _, _, hg1, hgc⟩ := Grp.groups_mem (List.mem_of_getElem? hg)
        have hgl : 1 < g.length := by rw [hgc]; exact hg1
        have hgn : g.length ≤ n := by rw [hgc]; exact Grp.cls_len n nr f
        have HGN : Hid (g.Nodup ∧ ∀ x ∈ g, x < n) := by
          show g.Nodup ∧ ∀ x ∈ g, x < n
          rw [hgc]
          exact ⟨(Grp.cls_up n nr f).imp fun h => by omega, fun x hx => (Grp.mem_cls.1 hx).lt.2⟩
        have HGT := Lib.hid hg
        obtain ⟨t1, ht1'⟩ : ∃ t1, t = t1 := ⟨_, rfl⟩
        have hg2 : ¬ (g.length : Int) < 2 := by omega
        have hr2 : ∀ V, Below w1.heap.size w1 V → RowL V b1 (Grp.ints g) := by
          intro V hV
          obtain ⟨b', c', e', hr'⟩ := (HL1.out.keep hV).each t _ (Grp.ints g) hv (by rw [List.getElem?_map, hg]; rfl)
          cases e'
          exact hr'
        have HR2 := Lib.hid hr2
        have ht0 : (0 : Int) ≤ (t : Int) := by omega
        have htl : (t : Int) < (vs.length : Int) := by omega
        clear hcx hLk hv hg hr1 hg1 hgc hr2 ht1'
        go_wp2_with fail
        go_loopg [78] g.length (fun gk uv wr => ∃ (u : Nat) (F : Nat → Nat), u ≤ g.length ∧ gk = g.length - u ∧ uv = .int .i64 u ∧ Grp.Numb n (Grp.groups n nr n) F t g u ∧ Nms wr w1.heap.size n F ∧ Below w1.heap.size w1 wr)
        case atStart => exact ⟨0, F, by omega, rfl, rfl, HNB.out.begin g, hN, hB⟩
        case round =>
          clear hN hB HNB cx
          obtain ⟨u, F, hu, rfl, rfl, hNb, hN, hB⟩ := hrel
          have HNB := Lib.hid hNb; clear hNb
          by_cases hlu : u < g.length
          · obtain ⟨p, hp⟩ : ∃ p, g[u]? = some p := ⟨_, List.getElem?_eq_getElem hlu⟩
            have hpn := HGN.out.2 p (List.mem_of_getElem? hp)
            have hfp := HNB.out.free (Grp.groups_apart HSY.out n) HGT.out HGN.out.1 hp
            have HNX := Lib.hid (HNB.out.next (Grp.groups_apart HSY.out n) HGT.out HGN.out.1 hp)
            obtain ⟨by_, oy, rfl, hby, hcy⟩ := HR2.out wr hB (by rw [Grp.ints_len]; omega)
            have cy : wr.cell? ⟨by_, oy + u, none⟩ = some (.int .i64 (p : Int)) := by have := hcy u (by rw [Grp.ints_len]; exact hlu); simp only [Grp.ints_at hp, Option.getD_some] at this; exact this
            have np : wr.cell? ⟨w1.heap.size, p, none⟩ = some (.int .i64 0) := by have := hN.cell p hpn; rw [hfp] at this; simpa using this
            have fp := Blk.frozen hN p
            have p0 : (0 : Int) ≤ (p : Int) := by omega
            have p1 : (p : Int) < (n : Int) := by omega
            have p2 : ¬ (p : Int) < 0 := by omega
            have p3 : ¬ (n : Int) ≤ (p : Int) := by omega
            have p4 : decide (n ≤ p) = false := by simp; omega
            have u0 : (0 : Int) ≤ (u : Int) := by omega
            have u1 : (u : Int) < (g.length : Int) := by omega
            have hN2 : Nms (wr.setCell ⟨w1.heap.size, p, none⟩ (.int .i64 ((t : Int) + 1))) w1.heap.size n (Grp.upd F p (t + 1)) := by have := hN.set p (t + 1); simpa using this
            clear hcy hp hfp
            go_wp2_with fail
            go_roundg (g.length - (u + 1))
            case rel => exact ⟨u + 1, Grp.upd F p (t + 1), by omega, rfl, by go_num, HNX.out, hN2, hB.setCell (p := ⟨w1.heap.size, p, none⟩) (Nat.le_refl _) _⟩
            case measure => omega
          · obtain rfl : u = g.length := by omega
            have HND := Lib.hid (HNB.out.done HGT.out)
            go_wp2_with fail
            go_roundg (vs.length - (t + 1))
            case rel => exact ⟨t + 1, F, by omega, rfl, by go_num, HND.out, hN, hB⟩
            case measure => omega
      · obtain rfl : t = vs.length := by omega
        have HSM : Hid (∀ i k, i < n → k < n → i ≠ k → nr i k = true → F i ≠ 0 ∧ F i = F k) := by
          intro i k hi hk hne hnr
          have h1 := HVL.out
          rw [List.length_map] at h1
          have h2 := HNB.out
          rw [h1] at h2
          exact h2.same HSY.out hi hk hne hnr
        go_wp2_with fail
        go_loopg [106] n (fun gk iv wr => ∃ (i : Nat), i ≤ n ∧ gk = n - i ∧ iv = .int .i64 i ∧ Nms wr w1.heap.size n F ∧ Below w1.heap.size w1 wr)
        case atStart => exact ⟨0, by omega, rfl, rfl, hN, hB⟩
        case round =>
          clear hN hB
          obtain ⟨i, hi, rfl, rfl, hN, hB⟩ := hrel
          by_cases hli : i < n
          · go_wp2_with fail
            go_loopg [110] i (fun gk kv wr => ∃ (k : Nat), k ≤ i ∧ gk = i - k ∧ kv = .int .i64 k ∧ Nms wr w1.heap.size n F ∧ Below w1.heap.size w1 wr)
            case atStart => exact ⟨0, by omega, rfl, rfl, hN, hB⟩
            case round =>
              clear hN hB
              obtain ⟨k, hk, rfl, rfl, hN, hB⟩ := hrel
              by_cases hlk : k < i
              · obtain ⟨bh, off, rfl, hbh, hcell⟩ := HR.out.keep (below_up hB1 hB) (by omega)
                have ci : wr.cell? ⟨bh, off + i, none⟩ = some (.int .u64 (h i : Nat)) := hcell i hli
                have ck : wr.cell? ⟨bh, off + k, none⟩ = some (.int .u64 (h k : Nat)) := hcell k (by omega)
                clear hcell
                have ni := hN.cell i hli
                have nk := hN.cell k (by omega)
                have i0' : (0 : Int) ≤ (i : Int) := by omega
                have i1' : (i : Int) < (n : Int) := by omega
                have k0 : (0 : Int) ≤ (k : Int) := by omega
                have k1 : (k : Int) < (n : Int) := by omega
                have HD := Lib.hid (fun W => distance_is (h i) (h k) (HB.out i hli) (HB.out k (by omega)) W)
                have hnm : nr i k = decide ((Pop.dist (h i) (h k) : Int) ≤ most) := by rw [← HNR.out]; rfl
                have HNM := Lib.hid hnm; clear hnm
                generalize Pop.dist (h i) (h k) = d at HD HNM
                by_cases hd : (d : Int) ≤ most
                · have hd' : decide ((d : Int) ≤ most) = true := by simpa using hd
                  obtain ⟨s1, s2⟩ := HSM.out i k hli (by omega) (by omega) (by rw [HNM.out]; exact hd')
                  rw [← s2] at nk
                  have s3 : ((F i : Int) == 0) = false := by simp; omega
                  have s4 : ((F i : Int) != (F i : Int)) = false := by simp
                  clear s1 s2
                  go_wp2_with fail
                  go_quiet ((go_at_call 29; exact quiet_same (HD.out _)))
                  go_wp2_with fail
                  go_roundg (i - (k + 1))
                  case rel => exact ⟨k + 1, by omega, rfl, by go_num, hN, below_drewN hB _⟩
                  case measure => omega
                · have hd' : decide ((d : Int) ≤ most) = false := by simpa using hd
                  have hd2 : ((d : Int) ≤ most) = False := by simpa using hd
                  clear hd
                  go_wp2_with fail
                  go_quiet ((go_at_call 29; exact quiet_same (HD.out _)))
                  go_wp2_with fail
                  go_roundg (i - (k + 1))
                  case rel => exact ⟨k + 1, by omega, rfl, by go_num, hN, below_drewN hB _⟩
                  case measure => omega
              · obtain rfl : k = i := by omega
                go_wp2_with fail
                go_roundg (n - (k + 1))
                case rel => exact ⟨k + 1, by omega, rfl, by go_num, hN, hB⟩
                case measure => omega
          · obtain rfl : i = n := by omega
            go_wp2_with fail
            go_ret
            exact ⟨rfl, below_up hB1 hB⟩
  · go_enter Try.func6, Try.ntmps6
    go_wp2_with (first | (go_at_call 28; refine (awake_is _).mono ?_; rintro e w' ⟨rfl, rfl⟩) | (go_at_call 29; (with_reducible refine (HAB.out _).mono ?_); rintro e w' ⟨rfl, rfl⟩) | (go_at_call 29; (with_reducible refine (HBA.out _).mono ?_); rintro e w' ⟨rfl, rfl⟩) | (go_at_call 29; (with_reducible refine (HAC.out _).mono ?_); rintro e w' ⟨rfl, rfl⟩) | (go_at_call 29; (with_reducible refine (HBC.out _).mono ?_); rintro e w' ⟨rfl, rfl⟩) | (go_at_call 30; refine HG.out.mono ?_; rintro e w1 ⟨a1, ca1, vs, rfl, hL1, hB1⟩; have HL1 := Lib.hid hL1; clear hL1))
    have HVL := Lib.hid HL1.out.len
    obtain ⟨W3, hW3, hBt, hz3, hB3⟩ := box w1 (rowOf n fun _ => .int .i64 0) 3
    rw [hW3]
    have hN0 : Nms W3 w1.heap.size n (fun _ => 0) := hBt
    clear hW3 hBt hz3
    go_loopg [68] vs.length (fun gk iv wr => ∃ (t : Nat) (F : Nat → Nat), t ≤ vs.length ∧ gk = vs.length - t ∧ iv = .int .i64 t ∧ Grp.Numb n (Grp.groups n nr n) F t [] 0 ∧ Nms wr w1.heap.size n F ∧ Below w1.heap.size w1 wr)
    case atStart => exact ⟨0, _, by omega, rfl, rfl, Grp.Numb.start n _, hN0, hB3⟩
    case round =>
      clear hN0 hB3
      obtain ⟨t, F, ht, rfl, rfl, hNb, hN, hB⟩ := hrel
      have HNB := Lib.hid hNb; clear hNb
      have hvn : vs.length ≤ n := by have h1 := HVL.out; rw [List.length_map] at h1; have h2 := Grp.groups_len n nr n; omega
      by_cases hlt : t < vs.length
      · have hLk := HL1.out.keep hB
        obtain ⟨v, hv⟩ : ∃ v, vs[t]? = some v := ⟨_, List.getElem?_eq_getElem hlt⟩
        obtain ⟨g, hg⟩ : ∃ g, (Grp.groups n nr n)[t]? = some g := ⟨_, List.getElem?_eq_getElem (by have h1 := HVL.out; rw [List.length_map] at h1; omega)⟩
        obtain ⟨b1, c1, rfl, hr1⟩ := hLk.each t v (Grp.ints g) hv (by rw [List.getElem?_map, hg]; rfl)
        obtain ⟨bx, ox, rfl, hbx, hcx⟩ := hLk.row (by omega)
        have cx : wr.cell? ⟨bx, ox + t, none⟩ = some (.slice b1 (Grp.ints g).length c1) := by have := hcx t hlt; simp only [hv] at this; exact this
        rw [Grp.ints_len] at cx
        obtain ⟨f, _, _, hg1, hgc⟩ := Grp.groups_mem (List.mem_of_getElem? hg)
        have hgl : 1 < g.length := by rw [hgc]; exact hg1
        have hgn : g.length ≤ n := by rw [hgc]; exact Grp.cls_len n nr f
        have HGN : Hid (g.Nodup ∧ ∀ x ∈ g, x < n) := by
          show g.Nodup ∧ ∀ x ∈ g, x < n
          rw [hgc]
          exact ⟨(Grp.cls_up n nr f).imp fun h => by omega, fun x hx => (Grp.mem_cls.1 hx).lt.2⟩
        have HGT := Lib.hid hg
        obtain ⟨t1, ht1'⟩ : ∃ t1, t = t1 := ⟨_, rfl⟩
        have hg2 : ¬ (g.length : Int) < 2 := by omega
        have hr2 : ∀ V, Below w1.heap.size w1 V → RowL V b1 (Grp.ints g) := by
          intro V hV
          obtain ⟨b', c', e', hr'⟩ := (HL1.out.keep hV).each t _ (Grp.ints g) hv (by rw [List.getElem?_map, hg]; rfl)
          cases e'
          exact hr'
        have HR2 := Lib.hid hr2
        have ht0 : (0 : Int) ≤ (t : Int) := by omega
        have htl : (t : Int) < (vs.length : Int) := by omega
        clear hcx hLk hv hg hr1 hg1 hgc hr2 ht1'
        go_wp2_with fail
        go_loopg [78] g.length (fun gk uv wr => ∃ (u : Nat) (F : Nat → Nat), u ≤ g.length ∧ gk = g.length - u ∧ uv = .int .i64 u ∧ Grp.Numb n (Grp.groups n nr n) F t g u ∧ Nms wr w1.heap.size n F ∧ Below w1.heap.size w1 wr)
        case atStart => exact ⟨0, F, by omega, rfl, rfl, HNB.out.begin g, hN, hB⟩
        case round =>
          clear hN hB HNB cx
          obtain ⟨u, F, hu, rfl, rfl, hNb, hN, hB⟩ := hrel
          have HNB := Lib.hid hNb; clear hNb
          by_cases hlu : u < g.length
          · obtain ⟨p, hp⟩ : ∃ p, g[u]? = some p := ⟨_, List.getElem?_eq_getElem hlu⟩
            have hpn := HGN.out.2 p (List.mem_of_getElem? hp)
            have hfp := HNB.out.free (Grp.groups_apart HSY.out n) HGT.out HGN.out.1 hp
            have HNX := Lib.hid (HNB.out.next (Grp.groups_apart HSY.out n) HGT.out HGN.out.1 hp)
            obtain ⟨by_, oy, rfl, hby, hcy⟩ := HR2.out wr hB (by rw [Grp.ints_len]; omega)
            have cy : wr.cell? ⟨by_, oy + u, none⟩ = some (.int .i64 (p : Int)) := by have := hcy u (by rw [Grp.ints_len]; exact hlu); simp only [Grp.ints_at hp, Option.getD_some] at this; exact this
            have np : wr.cell? ⟨w1.heap.size, p, none⟩ = some (.int .i64 0) := by have := hN.cell p hpn; rw [hfp] at this; simpa using this
            have fp := Blk.frozen hN p
            have p0 : (0 : Int) ≤ (p : Int) := by omega
            have p1 : (p : Int) < (n : Int) := by omega
            have p2 : ¬ (p : Int) < 0 := by omega
            have p3 : ¬ (n : Int) ≤ (p : Int) := by omega
            have p4 : decide (n ≤ p) = false := by simp; omega
            have u0 : (0 : Int) ≤ (u : Int) := by omega
            have u1 : (u : Int) < (g.length : Int) := by omega
            have hN2 : Nms (wr.setCell ⟨w1.heap.size, p, none⟩ (.int .i64 ((t : Int) + 1))) w1.heap.size n (Grp.upd F p (t + 1)) := by have := hN.set p (t + 1); simpa using this
            clear hcy hp hfp
            go_wp2_with fail
            go_roundg (g.length - (u + 1))
            case rel => exact ⟨u + 1, Grp.upd F p (t + 1), by omega, rfl, by go_num, HNX.out, hN2, hB.setCell (p := ⟨w1.heap.size, p, none⟩) (Nat.le_refl _) _⟩
            case measure => omega
          · obtain rfl : u = g.length := by omega
            have HND := Lib.hid (HNB.out.done HGT.out)
            go_wp2_with fail
            go_roundg (vs.length - (t + 1))
            case rel => exact ⟨t + 1, F, by omega, rfl, by go_num, HND.out, hN, hB⟩
            case measure => omega
      · obtain rfl : t = vs.length := by omega
        have HSM : Hid (∀ i k, i < n → k < n → i ≠ k → nr i k = true → F i ≠ 0 ∧ F i = F k) := by
          intro i k hi hk hne hnr
          have h1 := HVL.out
          rw [List.length_map] at h1
          have h2 := HNB.out
          rw [h1] at h2
          exact h2.same HSY.out hi hk hne hnr
        go_wp2_with fail
        go_loopg [106] n (fun gk iv wr => ∃ (i : Nat), i ≤ n ∧ gk = n - i ∧ iv = .int .i64 i ∧ Nms wr w1.heap.size n F ∧ Below w1.heap.size w1 wr)
        case atStart => exact ⟨0, by omega, rfl, rfl, hN, hB⟩
        case round =>
          clear hN hB
          obtain ⟨i, hi, rfl, rfl, hN, hB⟩ := hrel
          by_cases hli : i < n
          · go_wp2_with fail
            go_loopg [110] i (fun gk kv wr => ∃ (k : Nat), k ≤ i ∧ gk = i - k ∧ kv = .int .i64 k ∧ Nms wr w1.heap.size n F ∧ Below w1.heap.size w1 wr)
            case atStart => exact ⟨0, by omega, rfl, rfl, hN, hB⟩
            case round =>
              clear hN hB
              obtain ⟨k, hk, rfl, rfl, hN, hB⟩ := hrel
              by_cases hlk : k < i
              · obtain ⟨bh, off, rfl, hbh, hcell⟩ := HR.out.keep (below_up hB1 hB) (by omega)
                have ci : wr.cell? ⟨bh, off + i, none⟩ = some (.int .u64 (h i : Nat)) := hcell i hli
                have ck : wr.cell? ⟨bh, off + k, none⟩ = some (.int .u64 (h k : Nat)) := hcell k (by omega)
                clear hcell
                have ni := hN.cell i hli
                have nk := hN.cell k (by omega)
                have i0' : (0 : Int) ≤ (i : Int) := by omega
                have i1' : (i : Int) < (n : Int) := by omega
                have k0 : (0 : Int) ≤ (k : Int) := by omega
                have k1 : (k : Int) < (n : Int) := by omega
                have HD := Lib.hid (fun W => distance_is (h i) (h k) (HB.out i hli) (HB.out k (by omega)) W)
                have hnm : nr i k = decide ((Pop.dist (h i) (h k) : Int) ≤ most) := by rw [← HNR.out]; rfl
                have HNM := Lib.hid hnm; clear hnm
                generalize Pop.dist (h i) (h k) = d at HD HNM
                by_cases hd : (d : Int) ≤ most
                · have hd' : decide ((d : Int) ≤ most) = true := by simpa using hd
                  obtain ⟨s1, s2⟩ := HSM.out i k hli (by omega) (by omega) (by rw [HNM.out]; exact hd')
                  rw [← s2] at nk
                  have s3 : ((F i : Int) == 0) = false := by simp; omega
                  have s4 : ((F i : Int) != (F i : Int)) = false := by simp
                  clear s1 s2
                  go_wp2_with fail
                  go_quiet ((go_at_call 29; exact quiet_same (HD.out _)))
                  go_wp2_with fail
                  go_roundg (i - (k + 1))
                  case rel => exact ⟨k + 1, by omega, rfl, by go_num, hN, below_drewN hB _⟩
                  case measure => omega
                · have hd' : decide ((d : Int) ≤ most) = false := by simpa using hd
                  have hd2 : ((d : Int) ≤ most) = False := by simpa using hd
                  clear hd
                  go_wp2_with fail
                  go_quiet ((go_at_call 29; exact quiet_same (HD.out _)))
                  go_wp2_with fail
                  go_roundg (i - (k + 1))
                  case rel => exact ⟨k + 1, by omega, rfl, by go_num, hN, below_drewN hB _⟩
                  case measure => omega
              · obtain rfl : k = i := by omega
                go_wp2_with fail
                go_roundg (n - (k + 1))
                case rel => exact ⟨k + 1, by omega, rfl, by go_num, hN, hB⟩
                case measure => omega
          · obtain rfl : i = n := by omega
            go_wp2_with fail
            go_ret
            exact ⟨rfl, below_up hB1 hB⟩
theorem pixNear_walk (x y z : Nat) (hx : x < 18446744073709551616) (hy : y < 18446744073709551616) (hz : z < 18446744073709551616) (a : Option Addr) (n ca : Nat) (h : Nat → Nat) (most : Int) (w : World) (hr : Row w a n (fun i => .int .u64 (h i : Nat))) (hb : ∀ i, i < n → h i < 18446744073709551616) (hn : n ≤ 9223372036854775807) : Calls Try.prog 6 #[.int .u64 x, .int .u64 y, .int .u64 z, .slice a n ca, .int .i64 most] w fun e w' => e = .returned (.bool true) ∧ Below w.heap.size w w' := by
  by_cases hl : 1000 < n
  · exact pixNear_err x y z hx hy hz a n ca h most w hr hb hn 4 (by omega) (groups_large a n ca h most w hr hb hn hl)
  · by_cases hm : 0 ≤ most ∧ most ≤ 64
    · exact pixNear_ok x y z hx hy hz a n ca h most w hr hb hn hl hm
    · exact pixNear_err x y z hx hy hz a n ca h most w hr hb hn 2 (by omega) (groups_range a n ca h most w hr hb hn hl (by omega))
end Go.Proofs.Ytbbedepojogfmaa
