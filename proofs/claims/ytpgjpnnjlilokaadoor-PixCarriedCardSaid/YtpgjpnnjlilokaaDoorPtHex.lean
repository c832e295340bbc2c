/- Hexadecimal digits, as the program takes them out of a constant. -/
import Derived.Test.YtpgjpnnjlilokaaDoorPtEq
import Derived.Test.YtpgjpnnjlilokaaDoorPixImg
namespace Go.Proofs.YtpgjpnnjlilokaaDoor
open Go.RowKit Go.Sort
set_option linter.unusedVariables false
theorem hxs : ∀ d : Fin 16, ((ByteArray.mk #[48, 49, 50, 51, 52, 53, 54, 55, 56, 57, 97, 98, 99, 100, 101, 102]).data[d.val]'(by simp)).toNat = (Pt.hx d.val).toNat := by decide
theorem hxIdx (d : Nat) (h : d < 16) (V : World) : (Instr.index 9 (.string ⟨#[48, 49, 50, 51, 52, 53, 54, 55, 56, 57, 97, 98, 99, 100, 101, 102]⟩) (.int .u8 (d : Int))).run Tryd.prog V = .ok (.int .u8 ((Pt.hx d).toNat : Int)) V := by
  have h0 : (0 : Int) ≤ (d : Int) := by omega
  have h1 : (d : Int) < 16 := by omega
  go_simp
  exact congrArg Int.ofNat (hxs ⟨d, h⟩)
theorem hxHi (u : Nat) (h : u ≤ 255) (V : World) : (Instr.index 9 (.string ⟨#[48, 49, 50, 51, 52, 53, 54, 55, 56, 57, 97, 98, 99, 100, 101, 102]⟩) (.int .u8 ((u : Int) / 16))).run Tryd.prog V = .ok (.int .u8 ((Pt.hx (u / 16)).toNat : Int)) V := hxIdx (u / 16) (by omega) V
theorem hxLo (u : Nat) (h : u ≤ 255) (V : World) : (Instr.index 9 (.string ⟨#[48, 49, 50, 51, 52, 53, 54, 55, 56, 57, 97, 98, 99, 100, 101, 102]⟩) (.int .u8 ((u : Int) % 16))).run Tryd.prog V = .ok (.int .u8 ((Pt.hx (u % 16)).toNat : Int)) V := hxIdx (u % 16) (by omega) V
theorem and15 (u : Nat) (h : u ≤ 255) : bits .and .u8 (u : Int) 15 = (u : Int) % 16 := by
  have key : ∀ v : Fin 256, bits .and .u8 (v.val : Int) 15 = (v.val : Int) % 16 := by decide +kernel
  exact key ⟨u, by omega⟩
theorem shr4 (u : Nat) (h : u ≤ 255) (V : World) : Sem.run Tryd.prog (binOp .shr 5 (.int .u8 (u : Int)) (.int .u64 4)) V = .ok (.int .u8 ((u : Int) / 16)) V := by
  go_simp
theorem and15r (u : Nat) (h : u ≤ 255) (V : World) : Sem.run Tryd.prog (binOp .and 5 (.int .u8 (u : Int)) (.int .u8 15)) V = .ok (.int .u8 ((u : Int) % 16)) V := by
  have := and15 u h
  go_simp
end Go.Proofs.YtpgjpnnjlilokaaDoor
