/- Library: strings.Split at a separator of one byte: the parts between. -/
import Derived.Test.YtfjjikabinelgaaDoorLine
namespace Go.Proofs.YtfjjikabinelgaaDoor
open Go.RowKit Go.Proofs.YtfjjikabinelgaaDoorW.PrintWords Sc
set_option linter.unusedVariables false
set_option linter.unusedSimpArgs false

theorem splitK_spl (c : UInt8) : ∀ (n : Nat) (l : List UInt8), l.length = n → Lib.splitK [c] 0 (Lib.count l [c]) l = spl c l := by
  intro n
  induction n using Nat.strongRecOn with
  | _ n ih =>
    intro l hl
    have hge := Lib.index_ge l [c]
    by_cases hm : Lib.index l [c] = -1
    · rw [Lib.count_miss hm]
      have hn : c ∉ l := fun h => by
        obtain ⟨k, hk, he⟩ := List.getElem_of_mem h
        rw [Lib.index_one] at hm
        exact Lib.indexByte_none hm k (by rw [List.getElem?_eq_getElem hk, he])
      rw [spl_free c hn]
      rfl
    · obtain ⟨i, hi⟩ : ∃ i : Nat, Lib.index l [c] = i := ⟨(Lib.index l [c]).toNat, by omega⟩
      rw [Lib.count_hit (by simp) hi, Nat.add_comm 1, Lib.splitK]
      have hb := hi
      rw [Lib.index_one] at hb
      obtain ⟨h1, h2⟩ := Lib.indexByte_some hb
      obtain ⟨hlt, he⟩ := List.getElem?_eq_some_iff.1 h1
      have hne : ¬ (Lib.index l [c] == -1) = true := fun e => by have := beq_iff_eq.1 e; omega
      have hit : (Lib.index l [c]).toNat = i := by omega
      rw [if_neg hne, hit, Nat.add_zero]
      have hfree : c ∉ l.take i := fun h => by
        obtain ⟨k, hk, hke⟩ := List.getElem_of_mem h
        rw [List.length_take] at hk
        rw [List.getElem_take] at hke
        exact h2 k (by omega) ((List.getElem?_eq_getElem (show k < l.length by omega)).trans (congrArg some hke))
      have hd : l = l.take i ++ c :: l.drop (i + 1) := by
        conv => lhs; rw [← List.take_append_drop i l]
        rw [List.drop_eq_getElem_cons hlt, he]
      have e1 : spl c l = l.take i :: spl c (l.drop (i + 1)) := by
        conv => lhs; rw [hd]
        exact spl_app c _ hfree
      rw [e1]
      congr 1
      exact ih _ (by rw [List.length_drop]; omega) (l.drop (i + 1)) rfl

theorem splitB_spl (c : UInt8) (l : List UInt8) : Lib.splitB (str [c]) 0 (Lib.countB (str l) (str [c])) (str l) = (spl c l).map str := by
  have h := Lib.splitB_data (str [c]) 0 (Lib.countB (str l) (str [c])) (str l)
  have e : Lib.splitK (str [c]).data.toList 0 (Lib.countB (str l) (str [c])) (str l).data.toList = spl c l := splitK_spl c _ l rfl
  rw [e] at h
  rw [← h, List.map_map]
  exact (List.map_id _).symm

theorem splitB_all_len (c : UInt8) (l : List UInt8) : Lib.countB (str l) (str [c]) + 1 = (spl c l).length := by
  have h := Lib.splitB_all (str [c]) (Nat.le_refl 1) 0 _ (str l) rfl
  rw [splitB_spl, List.length_map] at h
  exact h.symm

def strs (xs : List (List UInt8)) : List Value := xs.map fun x => .string (str x)

theorem split_calls (c : UInt8) (l : List UInt8) (hl : l.length < 4294967281) (w : World) (he : Env w) :
    Calls Tryd.prog 21 #[.string (str l), .string (str [c])] w fun e w' => e = .returned (.slice (some ⟨w.heap.size, 0, none⟩) (spl c l).length (spl c l).length) ∧ w' = w.alloc (.cells (strs (spl c l)).toArray 9) := by
  obtain ⟨m, hm⟩ := he.maxLen
  have h := Any.strings_Split (ρ := Tryd.laysM146_ren) { Tryd.laysM146 with } Tryd.laysM146.i9 (str l) (str [c]) m w hl hm (Nat.le_refl 1)
  refine h.mono ?_
  rintro e w' ⟨rfl, rfl⟩
  rw [splitB_all_len, splitB_spl]
  have ev : ((spl c l).map str).map Value.string = strs (spl c l) := by simp [strs]
  rw [ev]
  exact ⟨rfl, rfl⟩

theorem strs_len (xs : List (List UInt8)) : (strs xs).length = xs.length := by simp [strs]
/-- The new block's strings are read. -/
theorem strs_reads (w : World) (xs : List (List UInt8)) (hl : xs.length ≤ 9223372036854775807) : Kd.C Kd.string (w.alloc (.cells (strs xs).toArray 9)) (some ⟨w.heap.size, 0, none⟩) (xs.map str).length (xs.map str) := by
  refine Kd.C_of_reads (d := str []) ⟨rfl, by rw [List.length_map]; exact hl, fun hn => ⟨_, rfl, fun j hj => ?_⟩⟩
  have hb : (w.alloc (.cells (strs xs).toArray 9)).heap[w.heap.size]? = some (.cells (strs xs).toArray 9 (0, 0)) := heap_alloc_new w _
  rw [List.length_map] at hj
  rw [add_plain, blk_cell hb j]
  simp [strs, List.getElem?_map, List.getElem?_eq_getElem hj, List.getD_eq_getElem?_getD]
end Go.Proofs.YtfjjikabinelgaaDoor
