/- Grey: plain mathematics. -/
namespace Go.Proofs.Ytkebkbjkapfgkaa.Im
def grey (r g b : Int) : Int := (299 * r + 587 * g + 114 * b + 500) / 1000
theorem grey_bd {r g b : Int} (h1 : 0 ≤ r ∧ r ≤ 255) (h2 : 0 ≤ g ∧ g ≤ 255) (h3 : 0 ≤ b ∧ b ≤ 255) : 0 ≤ grey r g b ∧ grey r g b ≤ 255 := by unfold grey; omega
end Go.Proofs.Ytkebkbjkapfgkaa.Im
