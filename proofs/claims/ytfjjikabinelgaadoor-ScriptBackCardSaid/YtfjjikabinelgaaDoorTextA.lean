/- What the walk of script.Text leans on. -/
import Derived.Test.YtfjjikabinelgaaDoorAdd
import Derived.Test.YtfjjikabinelgaaDoorDecode
import Derived.Deep.RegionHeld3
import Derived.Lib.AppendIntMem
import Derived.Lib.ItoaLen
namespace Go.Proofs.YtfjjikabinelgaaDoor
open Go.RowKit Go.Maps Go.Proofs Go.Proofs.YtfjjikabinelgaaDoorW.PrintWords Go.Proofs.YtfjjikabinelgaaDoorW.PrintLast Go.Proofs.YtfjjikabinelgaaDoorW.PrintMore Sc PScriptLines
set_option linter.unusedVariables false
set_option linter.unusedSimpArgs false

theorem idx_wsu0 (W : World) : (Instr.index 79 (.agg wsA) (.int .u8 ((0 : Nat) : Int))).run Tryd.prog W = .ok (.string (str (word 0))) W := by kernel_rfl
theorem idx_wsu1 (W : World) : (Instr.index 79 (.agg wsA) (.int .u8 ((1 : Nat) : Int))).run Tryd.prog W = .ok (.string (str (word 1))) W := by kernel_rfl
theorem idx_wsu2 (W : World) : (Instr.index 79 (.agg wsA) (.int .u8 ((2 : Nat) : Int))).run Tryd.prog W = .ok (.string (str (word 2))) W := by kernel_rfl
theorem idx_wsu3 (W : World) : (Instr.index 79 (.agg wsA) (.int .u8 ((3 : Nat) : Int))).run Tryd.prog W = .ok (.string (str (word 3))) W := by kernel_rfl
theorem idx_wsu4 (W : World) : (Instr.index 79 (.agg wsA) (.int .u8 ((4 : Nat) : Int))).run Tryd.prog W = .ok (.string (str (word 4))) W := by kernel_rfl
theorem idx_wsu5 (W : World) : (Instr.index 79 (.agg wsA) (.int .u8 ((5 : Nat) : Int))).run Tryd.prog W = .ok (.string (str (word 5))) W := by kernel_rfl
theorem idx_wsu6 (W : World) : (Instr.index 79 (.agg wsA) (.int .u8 ((6 : Nat) : Int))).run Tryd.prog W = .ok (.string (str (word 6))) W := by kernel_rfl
theorem idx_wsu7 (W : World) : (Instr.index 79 (.agg wsA) (.int .u8 ((7 : Nat) : Int))).run Tryd.prog W = .ok (.string (str (word 7))) W := by kernel_rfl
theorem idx_wsu8 (W : World) : (Instr.index 79 (.agg wsA) (.int .u8 ((8 : Nat) : Int))).run Tryd.prog W = .ok (.string (str (word 8))) W := by kernel_rfl
theorem idx_wsu9 (W : World) : (Instr.index 79 (.agg wsA) (.int .u8 ((9 : Nat) : Int))).run Tryd.prog W = .ok (.string (str (word 9))) W := by kernel_rfl
theorem idx_wsu (k : Nat) (hk : k ≤ 9) : ∀ W : World, (Instr.index 79 (.agg wsA) (.int .u8 k)).run Tryd.prog W = .ok (.string (str (word k))) W := by
  intro W
  have hcase : k = 0 ∨ k = 1 ∨ k = 2 ∨ k = 3 ∨ k = 4 ∨ k = 5 ∨ k = 6 ∨ k = 7 ∨ k = 8 ∨ k = 9 := by omega
  rcases hcase with rfl | rfl | rfl | rfl | rfl | rfl | rfl | rfl | rfl | rfl
  · exact idx_wsu0 W
  · exact idx_wsu1 W
  · exact idx_wsu2 W
  · exact idx_wsu3 W
  · exact idx_wsu4 W
  · exact idx_wsu5 W
  · exact idx_wsu6 W
  · exact idx_wsu7 W
  · exact idx_wsu8 W
  · exact idx_wsu9 W

theorem itoa_calls (n : Int) (h0 : 0 ≤ n) (h1 : n ≤ 1099511627776) (w : World) (he : Env w) :
    Calls Tryd.prog 35 #[.int .i64 n] w fun e w' => e = .returned (.string (str (Lib.decDigits n.toNat))) ∧ Below w.heap.size w w' := by
  refine (Tryd.strconv_Itoa n (by omega) (by omega) w he.pow10).mono ?_
  rintro e w' ⟨rfl, k, os, rfl⟩
  refine ⟨?_, Go.Lib.below_grow _ _ (Nat.le_refl _) _ _⟩
  have : Lib.itoa n = Lib.decDigits n.toNat := by
    unfold Lib.itoa
    first | rfl | (rw [if_neg (by omega)]) | (split <;> first | omega | (congr 1 <;> omega))
  rw [this]
  rfl

theorem join_eq (c : UInt8) : ∀ xs : List (List UInt8), Lib.join xs [c] = joinc c xs
  | [] => rfl
  | [x] => by simp [Lib.join, List.intercalate, joinc]
  | x :: y :: r => by
    rw [joinc_cons c x (by simp), ← join_eq c (y :: r)]
    simp [Lib.join, List.intercalate]

/-- The parts, as Text adds them. -/
def addL (b : Bool) (xs : List (List UInt8)) (s : List UInt8) : List (List UInt8) := if b then xs ++ [s] else xs
theorem addL_len (b : Bool) (xs : List (List UInt8)) (s : List UInt8) : (addL b xs s).length ≤ xs.length + 1 := by unfold addL; split <;> simp
def oneD (e : Bool) : List UInt8 := if e then [49] else [48]
theorem addL_eq (b : Bool) (xs : List (List UInt8)) (s : List UInt8) : addL b xs s = xs ++ (if b then [s] else []) := by unfold addL; cases b <;> simp
theorem addL_fields (k s d : Nat) (n : Int) (e : Bool) (p dat : List UInt8) :
    addL (hasD k) (addL (k9 k) (addL (k7 k) (addL (k0 k) (addL (hasN k) (addL (sided k) [word k] (Lib.decDigits s)) (Lib.decDigits n.toNat)) (Lib.decDigits d)) (oneD e)) p) (hexP dat) = fields ⟨k, s, n, d, e, p, dat⟩ := by
  simp only [addL_eq, fields, fSide, fN, fDraw, fDone, fPath, fData, k0, k7, k9, oneD]
  simp

theorem dec_len20 (u : Nat) (h : u < 18446744073709551616) : (Lib.decDigits u).length ≤ 20 := by
  rw [Lib.decDigits_length]
  exact Lib.nDigits_le20 u h
theorem joinc_len (c : UInt8) (M : Nat) : ∀ xs : List (List UInt8), (∀ x ∈ xs, x.length ≤ M) → (joinc c xs).length ≤ xs.length * (M + 1)
  | [], _ => by simp [joinc]
  | [x], h => by have := h x (by simp); simp [joinc]; omega
  | x :: y :: r, h => by
    rw [joinc_cons c x (by simp)]
    have h1 := h x (by simp)
    have h2 := joinc_len c M (y :: r) (fun z hz => h z (List.mem_cons_of_mem _ hz))
    simp only [List.length_append, List.length_cons] at h2 ⊢
    rw [Nat.add_mul]
    omega
theorem word_len10 (k : Nat) : (word k).length ≤ 8 := by
  unfold word
  repeat (split; · decide)
  decide
theorem fields_len {k s d : Nat} {n : Int} {e : Bool} {p dat : List UInt8} (hs : s < 256) (hn : n ≤ 1099511627776) (hd : d < 4294967296) (hp : p.length ≤ 1000000) (hdl : dat.length ≤ 1000000) : ∀ x ∈ fields ⟨k, s, n, d, e, p, dat⟩, x.length ≤ 3000000 := by
  intro f hf
  unfold fields at hf
  simp only [List.mem_cons, List.mem_append] at hf
  rcases hf with rfl | hf | hf | hf | hf | hf | hf
  · have := word_len10 k; omega
  · obtain ⟨_, rfl⟩ := mem_if hf; have := dec_len20 s (by omega); omega
  · obtain ⟨_, rfl⟩ := mem_if hf; have := dec_len20 n.toNat (by omega); omega
  · obtain ⟨_, rfl⟩ := mem_if hf; have := dec_len20 d (by omega); omega
  · obtain ⟨_, rfl⟩ := mem_if hf; split <;> simp
  · obtain ⟨_, rfl⟩ := mem_if hf; omega
  · obtain ⟨_, rfl⟩ := mem_if hf
    unfold hexP
    split
    · simp
    · rw [hexb_len]; omega

theorem blk_new {W : World} {o : Obj} {i : Nat} (hi : i = W.heap.size) : (W.alloc o).heap[i]? = some o := by
  subst hi
  exact heap_alloc_new W o
theorem blk_old {W : World} {o x : Obj} {i : Nat} (hi : i < W.heap.size) (h : W.heap[i]? = some x) : (W.alloc o).heap[i]? = some x := (Below.heap_alloc _ _ _ hi).trans h
theorem blk_drew {W : World} {x : Obj} {i : Nat} (h : W.heap[i]? = some x) : W.drew.heap[i]? = some x := h

theorem tx_one {WB W4 : World} {q b : Nat} {s : List UInt8} (hq : W4.heap[q]? = some (.cells #[.slice (some ⟨b, 0, none⟩) 1 1] 59 (0, 0))) (hb : W4.heap[b]? = some (.cells #[.string (str s)] 9 (0, 0))) (hB : Below WB.heap.size WB W4) (h1 : WB.heap.size ≤ q) (h2 : WB.heap.size ≤ b) (hne : b ≠ q) : TX WB q W4 [s] :=
  ⟨hB, h1, _, hq, fun k hk => (by injection hk with hk; subst hk; exact hne), [.string (str s)], ⟨rfl, Or.inr ⟨b, 1, #[.string (str s)], rfl, h2, hb, Nat.le_refl _, by unfold maxLen; omega, rfl, rfl⟩⟩, Reps.snoc (ps := []) (cs := []) (c := [.string (str s)]) (Reps.none _ _) rfl rfl⟩

end Go.Proofs.YtfjjikabinelgaaDoor
