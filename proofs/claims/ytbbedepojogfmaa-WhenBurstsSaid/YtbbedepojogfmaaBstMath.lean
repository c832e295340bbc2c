/- Plain mathematics of the days that come again. -/
import Derived.Test.YtbbedepojogfmaaDaysMath
import Derived.Test.YtbbedepojogfmaaDaysRef
namespace Go.Proofs.Ytbbedepojogfmaa.An
open Go.Proofs.Ytbbedepojogfmaa
/-- The day of year Y on which the day d of month m comes again. -/
def dayIn (m d Y : Int) : Int := Cal.num Y m (if Cal.len Y m < d then Cal.len Y m else d)
theorem vld_in {y m d : Int} (h : Cal.vld y m d = true) (Y : Int) (h1 : 1900 ≤ Y) (h2 : Y ≤ 2099) : Cal.vld Y m (if Cal.len Y m < d then Cal.len Y m else d) = true := by
  obtain ⟨g1, g2, g3, g4, g5, g6⟩ := (Cal.vld_iff y m d).1 h
  have hb := Cal.len_bd Y m
  rw [Cal.vld_iff]
  refine ⟨h1, h2, g3, g4, ?_, ?_⟩ <;> split <;> omega
def near (m d Y day s : Int) : Prop := -s ≤ dayIn m d Y - day ∧ dayIn m d Y - day ≤ s
def again (y m d day s : Int) : Prop := ∃ Y, y + 1 ≤ Y ∧ Y ≤ 2099 ∧ near m d Y day s
open Classical in
/-- The day x comes again on a day. -/
noncomputable def yes (x day s : Int) : Bool := decide (∃ y m d, Cal.vld y m d = true ∧ Cal.num y m d = x ∧ again y m d day s)
open Classical in
theorem yes_t {y m d x day s : Int} (h : Cal.vld y m d = true) (e : Cal.num y m d = x) (g : again y m d day s) : yes x day s = true := by
  unfold yes; exact decide_eq_true ⟨y, m, d, h, e, g⟩
open Classical in
theorem yes_f {y m d x day s : Int} (h : Cal.vld y m d = true) (e : Cal.num y m d = x) (g : ¬ again y m d day s) : yes x day s = false := by
  unfold yes
  refine decide_eq_false ?_
  rintro ⟨y', m', d', h', e', g'⟩
  obtain ⟨rfl, rfl, rfl⟩ := Cal.num_inj _ _ _ _ _ _ h h' (e.trans e'.symm)
  exact g g'
theorem near_year {y m d day s Y ny nm nd : Int} (h : Cal.vld y m d = true) (h1 : 1900 ≤ Y) (h2 : Y ≤ 2099) (hn : Cal.vld ny nm nd = true) (e : Cal.num ny nm nd = day) (hs : s ≤ 30) (g : near m d Y day s) : ny - 1 ≤ Y ∧ Y ≤ ny + 1 := by
  obtain ⟨_, _, a1, a2⟩ := Cal.num_bd _ _ _ (vld_in h Y h1 h2)
  obtain ⟨_, _, b1, b2⟩ := Cal.num_bd _ _ _ hn
  obtain ⟨g1, g2⟩ := g
  unfold dayIn at g1 g2
  rw [e] at b1 b2
  constructor
  · by_cases c : Y + 1 < ny
    · have := Cal.bef_mono (Y + 1) ny (by omega); omega
    · omega
  · by_cases c : ny + 1 < Y
    · have := Cal.bef_mono (ny + 1) Y (by omega); omega
    · omega
end Go.Proofs.Ytbbedepojogfmaa.An
