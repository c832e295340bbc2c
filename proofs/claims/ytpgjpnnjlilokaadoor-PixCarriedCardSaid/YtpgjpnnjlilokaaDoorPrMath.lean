/- An image's text, read: numbers, colours, lines: plain lists. -/
import Derived.Test.YtpgjpnnjlilokaaDoorDigMath
import Derived.Lib.Split
namespace Go.Proofs.YtpgjpnnjlilokaaDoor
namespace Pr
/-- A number of at most four digits. -/
def num4 (a : List UInt8) : Option Nat := if (1 ≤ a.length ∧ a.length ≤ 4) ∧ Dg.allD a = true ∧ ¬ (1 < a.length ∧ a[0]? = some 48) then some (Dg.val a) else none
/-- What a hexadecimal digit says. -/
def hv (c : UInt8) : Option Nat := if 48 ≤ c.toNat ∧ c.toNat ≤ 57 then some (c.toNat - 48) else if 97 ≤ c.toNat ∧ c.toNat ≤ 102 then some (c.toNat - 87) else none
def hexd : List UInt8 := [48, 49, 50, 51, 52, 53, 54, 55, 56, 57, 97, 98, 99, 100, 101, 102]
def two (c d : UInt8) : Option Nat := (hv c).bind fun x => (hv d).map fun y => 16 * x + y
/-- Six digits are a pixel. -/
def px6 : List UInt8 → Option (Nat × Nat × Nat)
  | [a, b, c, d, e, f] => (two a b).bind fun x => (two c d).bind fun y => (two e f).map fun z => (x, y, z)
  | _ => none
/-- A line of a run. -/
def run (s : List UInt8) : Option (Nat × Nat × Nat × Nat) := (num4 (Lib.cut s [32]).1).bind fun n => (px6 (Lib.cut s [32]).2.1).map fun p => (n, p)
theorem index_hex (c : UInt8) : Lib.indexByte hexd c = match hv c with | some k => (k : Int) | none => -1 := by
  have : ∀ n, n < 256 → Lib.indexByte hexd (UInt8.ofNat n) = match hv (UInt8.ofNat n) with | some k => (k : Int) | none => -1 := by decide +kernel
  have h := this c.toNat c.toNat_lt
  rwa [UInt8.ofNat_toNat] at h
theorem hv_lt {c : UInt8} {k : Nat} (h : hv c = some k) : k < 16 := by
  unfold hv at h
  split at h
  · injection h with h; omega
  · split at h
    · injection h with h; omega
    · exact absurd h (by simp)
theorem num4_lt {a : List UInt8} {n : Nat} (h : num4 a = some n) : n < 10000 := by
  unfold num4 at h
  split at h
  · rename_i hh
    injection h with h
    have h1 := Dg.val_lt hh.2.1
    have h3 : 10 ^ a.length ≤ 10 ^ 4 := Nat.pow_le_pow_right (by omega) hh.1.2
    have h4 : (10 : Nat) ^ 4 = 10000 := rfl
    omega
  · exact absurd h (by simp)
end Pr
end Go.Proofs.YtpgjpnnjlilokaaDoor
