/- Walk of Text's closure: one part more, if it is. -/
import Derived.Test.YtfjjikabinelgaaDoorHex
namespace Go.Proofs.YtfjjikabinelgaaDoor
open Go.RowKit Go.Maps Go.Proofs Go.Proofs.YtfjjikabinelgaaDoorW.PrintWords Go.Proofs.YtfjjikabinelgaaDoorW.PrintLast Go.Proofs.YtfjjikabinelgaaDoorW.PrintMore Sc PScriptLines
set_option linter.unusedVariables false
set_option linter.unusedSimpArgs false

/-- Block p is a variable that holds the parts xs; what lay in w0 lies yet. -/
structure TX (w0 : World) (p : Nat) (w : World) (xs : List (List UInt8)) : Prop where
  bel : Below w0.heap.size w0 w
  ge : w0.heap.size ≤ p
  row : ∃ v, w.heap[p]? = some (.cells #[v] 59 (0, 0)) ∧ Kd.R Kd.string 9 w w0.heap.size (fun k => k ≠ p) v (xs.map str)

theorem TX.below {w0 w w1 : World} {p : Nat} {xs : List (List UInt8)} (h : TX w0 p w xs) (hb : Below w.heap.size w w1) : TX w0 p w1 xs := by
  obtain ⟨v, h1, h2⟩ := h.row
  exact ⟨h.bel.trans (hb.mono h.bel.size), h.ge, v, (hb.block _ (blk_lt h1)).trans h1, Kd.R_below h2 hb⟩

set_option maxHeartbeats 2000000 in
theorem add_calls {w0 w : World} {p : Nat} {xs : List (List UInt8)} (h : TX w0 p w xs) (hx : xs.length ≤ 100) (b : Bool) (s : List UInt8) :
    Calls Tryd.prog 34 #[.bool b, .string (str s), .pointer (some ⟨p, 0, none⟩)] w fun e w' => e = .returned (.tuple #[]) ∧ TX w0 p w' (if b then xs ++ [s] else xs) := by
  have HT := Aside0.mk h
  obtain ⟨v, hb, hR⟩ := h.row
  have HB := Aside0.mk hb
  have HR := Aside0.mk hR
  have hcell : w.cell? ⟨p, 0, none⟩ = some v := blk_cell hb 0
  have hfr : w.frozen? ⟨p, 0, none⟩ = false := blk_frozen hb 0
  obtain ⟨A, c, rfl⟩ := Kd.R_slice hR
  rw [List.length_map] at hcell HB HR
  clear h hb hR
  cases b with
  | false =>
    go_enter Tryd.func34, Tryd.ntmps34
    go_wp2_with fail
    go_end0
    exact ⟨rfl, HT.out⟩
  | true =>
    go_enter Tryd.func34, Tryd.ntmps34
    go_wp2_with (at_builtin; refine Kd.R_append Kd.string (w0 := w0) w0.heap.size rfl (.tmp 6) (.tmp 8) 59 9 (.string ⟨#[]⟩) 16 rfl Tryd.underlying59 info9 rfl (by decide) (by omega) (.slice A xs.length c) (xs.map str) (str s) [.string (str s)] (fun k => k ≠ p) (fun _ => False) rfl rfl rfl (fun _ hk => hk.elim) (fun k hk => by have := blk_lt HB.out; omega) HR.out HT.out.bel HT.out.bel.size (by rw [List.length_map]; omega) ?_; intro v1 w2 hR2 hb2 hg2 hat2; obtain ⟨A1, c1, rfl⟩ := Kd.R_slice hR2; have hbk2 : w2.heap[p]? = some (.cells #[.slice A xs.length c] 59 (0, 0)) := (hg2.block p (blk_lt HB.out) (fun e => HR.out.1 p e.symm rfl)).trans HB.out; have hc2 : w2.cell? ⟨p, 0, none⟩ = some (.slice A xs.length c) := blk_cell hbk2 0; have hf2 : w2.frozen? ⟨p, 0, none⟩ = false := blk_frozen hbk2 0)
    go_end0
    refine ⟨rfl, hb2.setCell HT.out.ge _, HT.out.ge, _, blk_set hbk2 0 _, ?_⟩
    have el : (xs.map str ++ [str s]).length = xs.length + 1 := by simp
    rw [el] at hR2
    rw [List.map_append]
    exact Kd.R_far hR2 (fun k hk => hk) _
end Go.Proofs.YtfjjikabinelgaaDoor
