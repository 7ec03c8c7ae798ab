/- Walks of the script's reader: what each function computes. -/
import Derived.Test.YtfjjikabinelgaaDoorPScriptLinesx0
import Derived.Test.YtfjjikabinelgaaDoorPlainA
namespace Go.Proofs.YtfjjikabinelgaaDoor
open Go.RowKit Go.Proofs.YtfjjikabinelgaaDoorW.PrintWords Go.Proofs.YtfjjikabinelgaaDoorW.PrintLast Go.Proofs.YtfjjikabinelgaaDoorW.PrintMore Sc PScriptLines
set_option linter.unusedVariables false
set_option linter.unusedSimpArgs false

/-- Bytes as the printed words have them. -/
def ints (l : List UInt8) : List Int := l.map fun c => (c.toNat : Int)
theorem ints_len (l : List UInt8) : (ints l).length = l.length := by simp [ints]
theorem ints_app (l r : List UInt8) : ints (l ++ r) = ints l ++ ints r := by simp [ints]
theorem ints_take (l : List UInt8) (n : Nat) : ints (l.take n) = (ints l).take n := by simp [ints, List.map_take]
theorem ints_drop (l : List UInt8) (n : Nat) : ints (l.drop n) = (ints l).drop n := by simp [ints, List.map_drop]

/-- A slice's value has the bytes l in a world. -/
def By (w : World) (v : Value) (l : List UInt8) : Prop := ∃ A c, v = .slice A l.length c ∧ l.length ≤ c ∧ Kd.C (Kd.int .u8) w A l.length (ints l)
theorem By.below {w w1 : World} {v : Value} {l : List UInt8} (h : By w v l) (hb : Below w.heap.size w w1) : By w1 v l := by
  obtain ⟨A, c, e, hc, hr⟩ := h
  exact ⟨A, c, e, hc, Kd.C_below hr hb⟩
theorem By.nil (w : World) (A : Option Addr) (c : Nat) : By w (.slice A 0 c) [] := ⟨A, c, rfl, Nat.zero_le _, by
  refine ⟨rfl, by simp, fun h => absurd h (Nat.lt_irrefl 0)⟩⟩

theorem C_at {w : World} {A : Option Addr} {l : List UInt8} {c : UInt8} (h : Kd.C (Kd.int .u8) w A (c :: l).length (ints (c :: l))) : ∃ ad, A = some ad ∧ w.cell? ad = some (.int .u8 c.toNat) := by
  obtain ⟨ad, cs, e, _, hK, hc0⟩ := Kd.C_get h (0 : Int) 0 (by omega) (by simp)
  obtain rfl : cs = [.int .u8 (c.toNat : Int)] := hK
  refine ⟨ad, e, ?_⟩
  have := hc0 0 _ rfl
  simpa [Addr.add] using this

/-- Block g is a reader that has the bytes l; they lie as they lay in w0. -/
def Rd (w0 w : World) (g : Nat) (l : List UInt8) : Prop := ∃ v, w.heap[g]? = some (.cells #[v] 52 (0, 0)) ∧ By w0 v l

theorem one_nil (w : World) (g : Nat) (A : Option Addr) (c : Nat) (hb : w.heap[g]? = some (.cells #[.slice A 0 c] 52 (0, 0))) :
    Calls Tryd.prog 42 #[.pointer (some ⟨g, 0, none⟩)] w fun e w' => e = .returned (.int .i64 0) ∧ w' = w := by
  have hc : w.cell? ⟨g, 0, none⟩ = some (.slice A 0 c) := blk_cell hb 0
  go_enter Tryd.func42, Tryd.ntmps42
  go_wp2
  go_ret
  exact ⟨rfl, rfl⟩

theorem one_cons (w : World) (g : Nat) (ad : Addr) (n c : Nat) (v : Int) (h0 : 0 ≤ v) (h1 : v ≤ 255) (hb : w.heap[g]? = some (.cells #[.slice (some ad) (n + 1) c] 52 (0, 0))) (hv : w.cell? ad = some (.int .u8 v)) :
    Calls Tryd.prog 42 #[.pointer (some ⟨g, 0, none⟩)] w fun e w' => e = .returned (.int .i64 v) ∧ w' = w.setCell ⟨g, 0, none⟩ (.slice (if c = 1 then some ad else some (ad.add 1)) n (c - 1)) := by
  have hc : w.cell? ⟨g, 0, none⟩ = some (.slice (some ad) (n + 1) c) := blk_cell hb 0
  have hf : w.frozen? ⟨g, 0, none⟩ = false := blk_frozen hb 0
  have hl : (((n + 1 : Nat) : Int) == 0) = false := by simp; omega
  go_enter Tryd.func42, Tryd.ntmps42
  go_wp2
  all_goals (go_ret; exact ⟨rfl, rfl⟩)

theorem only_set {w : World} {g : Nat} (u : Value) : w.grownBy (w.setCell ⟨g, 0, none⟩ u) (some g) :=
  ⟨rfl, rfl, rfl, by simp [World.setCell], fun i hi hne => Below.heap_setCell w ⟨g, 0, none⟩ u i (fun e => hne (by rw [e]))⟩

theorem one_calls {w0 w : World} {g : Nat} {l : List UInt8} (h : Rd w0 w g l) (hB : Below w0.heap.size w0 w) :
    Calls Tryd.prog 42 #[.pointer (some ⟨g, 0, none⟩)] w fun e w' => e = .returned (.int .i64 (one l).1) ∧ Rd w0 w' g (one l).2 ∧ w.grownBy w' (some g) ∧ w'.heap.size = w.heap.size := by
  obtain ⟨v, hb, A, c, rfl, hc, hr⟩ := h
  cases l with
  | nil =>
    refine (one_nil w g A c hb).mono ?_
    rintro e w' ⟨rfl, rfl⟩
    exact ⟨rfl, ⟨_, hb, A, c, rfl, hc, hr⟩, World.grownBy.refl _ _, rfl⟩
  | cons x r =>
    obtain ⟨ad, rfl, hv⟩ := C_at hr
    have hx := x.toNat_lt
    refine (one_cons w g ad r.length c x.toNat (by omega) (by omega) hb (pw_cell_below hB hv)).mono ?_
    rintro e w' ⟨rfl, rfl⟩
    refine ⟨rfl, ⟨_, blk_set hb 0 _, ?_⟩, only_set _, by simp [World.setCell]⟩
    have hd := Kd.C_drop (k := Kd.int .u8) (c := c) (m := 1) (xs := ints (x :: r)) (by rw [ints_len]; exact hr) (by simp [ints]) (by rw [ints_len]; exact hc)
    refine ⟨_, _, rfl, by simp at hc; simp [one]; omega, ?_⟩
    have e1 : (ints (x :: r)).drop 1 = ints r := rfl
    rw [e1, ints_len] at hd
    exact hd
end Go.Proofs.YtfjjikabinelgaaDoor
