/- samePhoto and the reference's SamePhoto: whether two photos are equal. -/
import Derived.Test.YtngbaljmlbdfkaaGreatDoorFdEq
import Derived.Test.YtngbaljmlbdfkaaGreatDoorFdErr
namespace Go.Proofs.YtngbaljmlbdfkaaGreatDoor
open Go.RowKit Go.Sort Go.Shelf
set_option linter.unusedVariables false
/-- Whether two photos are equal. -/
def Ph.same (p r : Ph) : Bool := (p.id == r.id) && (p.file.toList == r.file.toList) && (p.mom == r.mom) && (p.zone == r.zone) && (Fd.eqRow p.wn r.wn fun i => p.lat i == r.lat i && p.lon i == r.lon i) && (p.W == r.W) && (p.H == r.H) && (p.turn == r.turn) && (p.stars == r.stars) && (Fd.eqRow p.tn r.tn fun i => (p.tag i).toList == (r.tag i).toList) && (p.cap.toList == r.cap.toList) && (Fd.eqRow p.pn r.pn fun i => p.who i == r.who i) && (p.hid == r.hid)
theorem Ph.same_self (p : Ph) : p.same p = true := by
  unfold Ph.same
  rw [Fd.eqRow_self _ _ (fun i => by simp), Fd.eqRow_self _ _ (fun i => by simp), Fd.eqRow_self _ _ (fun i => by simp)]
  simp
theorem Ph.same_no0 {p r : Ph} (h : (p.id == r.id) = false) : p.same r = false := by unfold Ph.same; rw [h]; simp
theorem Ph.same_no1 {p r : Ph} (h : (p.file.toList == r.file.toList) = false) : p.same r = false := by unfold Ph.same; rw [h]; simp
theorem Ph.same_no2 {p r : Ph} (h : (p.mom == r.mom) = false) : p.same r = false := by unfold Ph.same; rw [h]; simp
theorem Ph.same_no3 {p r : Ph} (h : (p.zone == r.zone) = false) : p.same r = false := by unfold Ph.same; rw [h]; simp
theorem Ph.same_no4 {p r : Ph} (h : (Fd.eqRow p.wn r.wn fun i => p.lat i == r.lat i && p.lon i == r.lon i) = false) : p.same r = false := by unfold Ph.same; rw [h]; simp
theorem Ph.same_no5 {p r : Ph} (h : (p.W == r.W) = false) : p.same r = false := by unfold Ph.same; rw [h]; simp
theorem Ph.same_no6 {p r : Ph} (h : (p.H == r.H) = false) : p.same r = false := by unfold Ph.same; rw [h]; simp
theorem Ph.same_no7 {p r : Ph} (h : (p.turn == r.turn) = false) : p.same r = false := by unfold Ph.same; rw [h]; simp
theorem Ph.same_no8 {p r : Ph} (h : (p.stars == r.stars) = false) : p.same r = false := by unfold Ph.same; rw [h]; simp
theorem Ph.same_no9 {p r : Ph} (h : (Fd.eqRow p.tn r.tn fun i => (p.tag i).toList == (r.tag i).toList) = false) : p.same r = false := by unfold Ph.same; rw [h]; simp
theorem Ph.same_no10 {p r : Ph} (h : (p.cap.toList == r.cap.toList) = false) : p.same r = false := by unfold Ph.same; rw [h]; simp
theorem Ph.same_no11 {p r : Ph} (h : (Fd.eqRow p.pn r.pn fun i => p.who i == r.who i) = false) : p.same r = false := by unfold Ph.same; rw [h]; simp
theorem Ph.same_no12 {p r : Ph} (h : (p.hid == r.hid) = false) : p.same r = false := by unfold Ph.same; rw [h]; simp
theorem Ph.same_yes {p r : Ph} (h0 : (p.id == r.id) = true) (h1 : (p.file.toList == r.file.toList) = true) (h2 : (p.mom == r.mom) = true) (h3 : (p.zone == r.zone) = true) (h4 : (Fd.eqRow p.wn r.wn fun i => p.lat i == r.lat i && p.lon i == r.lon i) = true) (h5 : (p.W == r.W) = true) (h6 : (p.H == r.H) = true) (h7 : (p.turn == r.turn) = true) (h8 : (p.stars == r.stars) = true) (h9 : (Fd.eqRow p.tn r.tn fun i => (p.tag i).toList == (r.tag i).toList) = true) (h10 : (p.cap.toList == r.cap.toList) = true) (h11 : (Fd.eqRow p.pn r.pn fun i => p.who i == r.who i) = true) (h12 : (p.hid == r.hid) = true) : p.same r = true := by unfold Ph.same; rw [h0, h1, h2, h3, h4, h5, h6, h7, h8, h9, h10, h11, h12]; rfl
end Go.Proofs.YtngbaljmlbdfkaaGreatDoor
