/- Walks: the kinds' words, and the map from words to kinds. -/
import Derived.Test.YtfjjikabinelgaaDoorLine
import Derived.Maps.OwnSet
import Derived.Maps.OwnOps
import Derived.StringKeys
namespace Go.Proofs.YtfjjikabinelgaaDoor
open Go.RowKit Go.Maps Go.WideMaps Go.WideElems Go.Proofs.YtfjjikabinelgaaDoorW.PrintWords Sc
set_option linter.unusedVariables false
set_option linter.unusedSimpArgs false

def wsA : Array Value := ((List.range 10).map fun k => Value.string (str (word k))).toArray

theorem words_calls (w : World) : Calls Tryd.prog 33 #[] w fun e w' => e = .returned (.agg wsA) ∧ w' = w.alloc (.cells wsA 79) := by
  go_enter Tryd.func33, Tryd.ntmps33
  go_wp2
  refine bodyPost_ret (v := .agg wsA) (by simp [results, Tryd.results33, go_sem]; rfl) rfl ⟨rfl, rfl⟩

def Dk : Nat → DataW Unit
  | 0 => .map []
  | k + 1 => (Dk k).put (.string (word k)) (.lit (.int .u8 (k : Int)))

theorem isMap_Dk : ∀ k, IsMap (Dk k)
  | 0 => ⟨[], rfl⟩
  | k + 1 => (isMap_Dk k).put _ _

theorem has_Dk (s : List UInt8) : ∀ n, (∀ k, k < n → s ≠ word k) → has (Dk n) (.string s) = false
  | 0, _ => rfl
  | n + 1, h => by
    rw [Dk, has_put_other (fun e => h n (by omega) (by injection e))]
    exact has_Dk s n fun k hk => h k (by omega)
theorem at_Dk (s : List UInt8) (z : DataW Unit) : ∀ n, (∀ k, k < n → s ≠ word k) → (Dk n).atKey (.string s) z = z
  | 0, _ => rfl
  | n + 1, h => by
    rw [Dk, atKey_put_other (fun e => h n (by omega) (by injection e))]
    exact at_Dk s z n fun k hk => h k (by omega)

theorem kindOf_none {s : List UInt8} (h : kindOf s = none) (k : Nat) (hk : k < 10) : s ≠ word k := by
  rintro rfl
  rw [kindOf_word (by omega)] at h
  cases h

theorem look_Dk (s : List UInt8) : has (Dk 10) (.string s) = (kindOf s).isSome ∧ (Dk 10).atKey (.string s) (.lit (.int .u8 0)) = .lit (.int .u8 (((kindOf s).getD 0 : Nat) : Int)) := by
  cases hk : kindOf s with
  | none =>
    have hn := kindOf_none hk
    exact ⟨has_Dk s 10 hn, at_Dk s _ 10 hn⟩
  | some k =>
    obtain ⟨rfl, h9⟩ := word_kindOf hk
    have hcase : k = 0 ∨ k = 1 ∨ k = 2 ∨ k = 3 ∨ k = 4 ∨ k = 5 ∨ k = 6 ∨ k = 7 ∨ k = 8 ∨ k = 9 := by omega
    rcases hcase with rfl | rfl | rfl | rfl | rfl | rfl | rfl | rfl | rfl | rfl <;> exact ⟨by kernel_rfl, by kernel_rfl⟩

theorem law9 : Keyed Tryd.prog 9 := string_keyed Tryd.underlying9
theorem zero5 (w : World) : (zeroValue 5).run Tryd.prog w = .ok (.int .u8 0) w := by kernel_rfl

theorem idx_ws0 (W : World) : (Instr.index 79 (.agg wsA) (.int .i64 ((0 : Nat) : Int))).run Tryd.prog W = .ok (.string (str (word 0))) W := by kernel_rfl
theorem idx_ws1 (W : World) : (Instr.index 79 (.agg wsA) (.int .i64 ((1 : Nat) : Int))).run Tryd.prog W = .ok (.string (str (word 1))) W := by kernel_rfl
theorem idx_ws2 (W : World) : (Instr.index 79 (.agg wsA) (.int .i64 ((2 : Nat) : Int))).run Tryd.prog W = .ok (.string (str (word 2))) W := by kernel_rfl
theorem idx_ws3 (W : World) : (Instr.index 79 (.agg wsA) (.int .i64 ((3 : Nat) : Int))).run Tryd.prog W = .ok (.string (str (word 3))) W := by kernel_rfl
theorem idx_ws4 (W : World) : (Instr.index 79 (.agg wsA) (.int .i64 ((4 : Nat) : Int))).run Tryd.prog W = .ok (.string (str (word 4))) W := by kernel_rfl
theorem idx_ws5 (W : World) : (Instr.index 79 (.agg wsA) (.int .i64 ((5 : Nat) : Int))).run Tryd.prog W = .ok (.string (str (word 5))) W := by kernel_rfl
theorem idx_ws6 (W : World) : (Instr.index 79 (.agg wsA) (.int .i64 ((6 : Nat) : Int))).run Tryd.prog W = .ok (.string (str (word 6))) W := by kernel_rfl
theorem idx_ws7 (W : World) : (Instr.index 79 (.agg wsA) (.int .i64 ((7 : Nat) : Int))).run Tryd.prog W = .ok (.string (str (word 7))) W := by kernel_rfl
theorem idx_ws8 (W : World) : (Instr.index 79 (.agg wsA) (.int .i64 ((8 : Nat) : Int))).run Tryd.prog W = .ok (.string (str (word 8))) W := by kernel_rfl
theorem idx_ws9 (W : World) : (Instr.index 79 (.agg wsA) (.int .i64 ((9 : Nat) : Int))).run Tryd.prog W = .ok (.string (str (word 9))) W := by kernel_rfl
theorem idx_ws (k : Nat) (hk : k < 10) : ∀ W : World, (Instr.index 79 (.agg wsA) (.int .i64 k)).run Tryd.prog W = .ok (.string (str (word k))) W := by
  intro W
  have hcase : k = 0 ∨ k = 1 ∨ k = 2 ∨ k = 3 ∨ k = 4 ∨ k = 5 ∨ k = 6 ∨ k = 7 ∨ k = 8 ∨ k = 9 := by omega
  rcases hcase with rfl | rfl | rfl | rfl | rfl | rfl | rfl | rfl | rfl | rfl
  · exact idx_ws0 W
  · exact idx_ws1 W
  · exact idx_ws2 W
  · exact idx_ws3 W
  · exact idx_ws4 W
  · exact idx_ws5 W
  · exact idx_ws6 W
  · exact idx_ws7 W
  · exact idx_ws8 W
  · exact idx_ws9 W

theorem word_len (k : Nat) (hk : k < 10) : (word k).length ≤ 8 := by
  have hcase : k = 0 ∨ k = 1 ∨ k = 2 ∨ k = 3 ∨ k = 4 ∨ k = 5 ∨ k = 6 ∨ k = 7 ∨ k = 8 ∨ k = 9 := by omega
  rcases hcase with rfl | rfl | rfl | rfl | rfl | rfl | rfl | rfl | rfl | rfl <;> decide

set_option maxHeartbeats 800000 in
set_option maxRecDepth 100000 in
theorem kinds_calls (w : World) : Calls Tryd.prog 22 #[] w fun e w' => e = .returned (.map (some w.heap.size)) ∧ w'.ownsMap Tryd.prog 9 (plainElem Tryd.prog 5) w.heap.size 10 (Dk 10) ∧ Below w.heap.size w w' := by
  have hmm := @run_makeMap Tryd.prog
  go_enter Tryd.func22, Tryd.ntmps22
  go_wp2_with (go_at_call 33; refine (words_calls _).mono ?_; rintro e w' ⟨rfl, rfl⟩)
  go_loopw [2, 3, 6] (fun _ _ i wr => ∃ k : Nat, k ≤ 10 ∧ i = .int .i64 k ∧ wr.ownsMap Tryd.prog 9 (plainElem Tryd.prog 5) w.heap.size k (Dk k) ∧ Below w.heap.size w wr)
    (fun _ _ i _ => 10 - (intOf i).toNat)
  case atStart => exact ⟨0, by omega, rfl, (World.ownsMap_made _ _ _ _).alloc _, ((Below.refl _ _).alloc (Nat.le_refl _) _).alloc (by simp) _⟩
  case round =>
    obtain ⟨k, hk, rfl, hown, hnx⟩ := hrel
    by_cases hlt : k < 10
    · have hi := idx_ws k hlt
      have hlt2 : (k : Int) < 10 := by omega
      have hkey : keyOf Tryd.prog 9 (.string (str (word k))) = some (.string (word k)) := keyOf_string_mk Tryd.underlying9 (by have := word_len k hlt; rw [str_size]; unfold maxLen; omega)
      have hwf : (Lit.int .u8 (k : Int)).wf = true := by
        have hcase : k = 0 ∨ k = 1 ∨ k = 2 ∨ k = 3 ∨ k = 4 ∨ k = 5 ∨ k = 6 ∨ k = 7 ∨ k = 8 ∨ k = 9 := by omega
        rcases hcase with rfl | rfl | rfl | rfl | rfl | rfl | rfl | rfl | rfl | rfl <;> decide
      have HWF := Aside0.mk hwf
      have HKEY := Aside0.mk hkey
      clear hwf hkey
      have hmod : (k : Int) % 256 = k := by omega
      go_wp2_with (at_mapUpdate; refine wpList_mapUpdate_own _ rfl _ _ _ 64 rfl 9 5 law9 Tryd.underlying64 _ w.heap.size k _ rfl hown (by unfold maxLen; omega) _ _ _ rfl rfl HKEY.out _ [] (plainElem_int Tryd.underlying5 HWF.out) ?_; intro w1 hown1 hgrow1)
      go_roundw
      case rel => exact ⟨k + 1, by omega, by go_num, hown1, hnx.grown hgrow1 hnx.size (fun j hj => by cases hj; exact Nat.le_refl _)⟩
      case measure => simp [intOf]; omega
    · obtain rfl : k = 10 := by omega
      go_wp2
      go_ret
      exact ⟨rfl, hown, hnx⟩
end Go.Proofs.YtfjjikabinelgaaDoor
