/- The rows' arguments, opened. -/
import Derived.Test.YtfjjikabinelgaaDoorLaid
import Derived.Test.YtfjjikabinelgaaDoorBytes
import Derived.Test.YtfjjikabinelgaaDoorLine
import Derived.Test.YtfjjikabinelgaaDoorWSized
import Derived.WalkKit
import Derived.ShutString
import Derived.ChangeOld
import Derived.SizedLaws
namespace Go.Proofs.YtfjjikabinelgaaDoor
open Go.ChangeShapes Go.WideShapes Go.ChangeAt Go.RowKit Go.Proofs.YtfjjikabinelgaaDoorW.PrintWords Go.Proofs.YtfjjikabinelgaaDoorW.PrintLast Go.Proofs.YtfjjikabinelgaaDoorW.PrintMore Sc PScriptLines
set_option linter.unusedVariables false

/-- A row of integers lies there. -/
def IsRow (k : IntKind) (w : World) (a : Option Addr) (len cap : Nat) (zs : List Int) : Prop :=
  (a = none ∧ len = 0 ∧ cap = 0 ∧ zs = []) ∨
  ∃ x, a = some x ∧ len ≤ cap ∧ cap ≤ maxLen ∧ zs.length = cap ∧ (∀ i, i < zs.length → w.cell? (x.add i) = some (.int k (zs.getD i 0))) ∧ ∀ n ∈ zs, (Lit.int k n).wf = true

theorem wf_u8 {x : Int} (h : (Lit.int .u8 x).wf = true) : 0 ≤ x ∧ x ≤ 255 := by
  have h' : (decide ((0 : Int) ≤ x) && decide (x ≤ 255)) = true := h
  simpa using h'
theorem wf_u16 {x : Int} (h : (Lit.int .u16 x).wf = true) : 0 ≤ x ∧ x ≤ 65535 := by
  have h' : (decide ((0 : Int) ≤ x) && decide (x ≤ 65535)) = true := h
  simpa using h'
theorem wf_u32 {x : Int} (h : (Lit.int .u32 x).wf = true) : 0 ≤ x ∧ x ≤ 4294967295 := by
  have h' : (decide ((0 : Int) ≤ x) && decide (x ≤ 4294967295)) = true := h
  simpa using h'
theorem wf_i64 {x : Int} (h : (Lit.int .i64 x).wf = true) : -9223372036854775808 ≤ x ∧ x ≤ 9223372036854775807 := by
  have h' : (decide ((-9223372036854775808 : Int) ≤ x) && decide (x ≤ 9223372036854775807)) = true := h
  simpa using h'

theorem ints_back {xs : List Int} (h : ∀ x ∈ xs, (Lit.int .u8 x).wf = true) : ints (xs.map fun x => UInt8.ofNat x.toNat) = xs := by
  unfold ints
  rw [List.map_map]
  conv => rhs; rw [← List.map_id xs]
  refine List.map_congr_left fun x hx => ?_
  obtain ⟨h0, h1⟩ := wf_u8 (h x hx)
  simp only [Function.comp, id]
  rw [UInt8.toNat_ofNat']
  omega

theorem by_of_row {w : World} {a : Option Addr} {len cap : Nat} {zs : List Int} (h : IsRow .u8 w a len cap zs) : ∃ l : List UInt8, len = l.length ∧ l.length ≤ maxLen ∧ By w (.slice a len cap) l := by
  obtain ⟨l, rfl, hr, hm, hw, hc⟩ := ReadsInt.ofRowC h
  have e := ints_back hw
  have el : (l.map fun x => UInt8.ofNat x.toNat).length = l.length := List.length_map ..
  refine ⟨l.map fun x => UInt8.ofNat x.toNat, el.symm, by rw [el]; exact hm, a, cap, by rw [el], by rw [el]; exact hc, ?_⟩
  rw [e, el]
  exact Kd.C_of_reads (d := (0 : Int)) (h1 := fun _ => rfl) hr
end Go.Proofs.YtfjjikabinelgaaDoor
