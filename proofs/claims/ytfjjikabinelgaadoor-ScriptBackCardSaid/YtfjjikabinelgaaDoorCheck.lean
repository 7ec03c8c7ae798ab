/- Walk of path.Check: whether a text is a path. -/
import Derived.Test.YtfjjikabinelgaaDoorPath
namespace Go.Proofs.YtfjjikabinelgaaDoor
open Go.Shelf Go.RowKit Go.Proofs.YtfjjikabinelgaaDoorW.PrintWords Sc
set_option linter.unusedVariables false
set_option linter.unusedSimpArgs false

theorem enters51 : ∀ args w, (callFunc 51 args).run Tryd.prog w = .ok (.enter 51 args) w := enters_of Tryd.func51 (by kernel_rfl) rfl

/-- slices.ContainsFunc over what Split hands out: is there a part that is no name? -/
theorem contains_calls {w W : World} {A : Option Addr} {b : Nat} {xs : List (List UInt8)} (hx : xs ≠ []) (hA : A = some ⟨b, 0, none⟩) (hr : Kd.C Kd.string W A (xs.map str).length (xs.map str)) :
    Calls Tryd.prog 50 #[.slice A xs.length xs.length, .func (.func 51) #[] #[]] W fun e w' => e = .returned (.bool (!(xs.all nameP))) ∧ ∃ q, w' = W.drewN q := by
  subst hA
  have hR := Kd.reads_of_C (d := str []) hr
  have hl : (xs.map str).length = xs.length := List.length_map _
  have h := Tryd.slices_ContainsFunc Value.string (fun s => !nameP s.data.toList) 51 #[] enters51 b 0 (xs.map str).length xs.length (xs.map str) W (pred_at W) (Nat.le_refl _) (by have := hr.2.1; exact this)
    (fun j hj => by
      obtain ⟨ad, e, hc⟩ := hR.2.2 (by omega)
      injection e with e
      subst e
      have := hc j hj
      rw [add_plain] at this
      rw [Nat.zero_add, this, List.getD_eq_getElem?_getD, List.getElem?_eq_getElem hj, getElem!_pos _ j hj]
      rfl)
  rw [List.take_length, any_not, hl] at h
  exact h

set_option maxHeartbeats 800000 in
theorem check_calls (l : List UInt8) (hl : l.length < 4294967281) (w : World) (he : Env w) :
    Calls Tryd.prog 26 #[.string (str l)] w fun e w' => e = .returned (.int .i64 (checkN l)) ∧ Below w.heap.size w w' := by
  have es : (str l).size = l.length := rfl
  unfold checkN
  by_cases h1 : 128 < l.length
  · rw [if_pos h1]
    have h1' : (128 : Int) < l.length := by omega
    go_enter Tryd.func26, Tryd.ntmps26
    go_wp2_with fail
    go_ret
    exact ⟨rfl, Below.refl _ _⟩
  rw [if_neg h1]
  have h1' : ¬ (128 : Int) < l.length := by omega
  have HP := Aside0.mk (psplit_calls l hl w he)
  have hnl : (names l).length ≤ 4294967296 := by
    unfold names
    split
    · simp
    · have h1 := spl_len 47 l
      have h2 : l.count 47 ≤ l.length := List.count_le_length
      omega
  by_cases h2 : names l = []
  · rw [if_pos h2]
    rw [h2] at HP
    clear h2
    go_enter Tryd.func26, Tryd.ntmps26
    go_wp2_with fail
    refine HP.out.mono ?_
    rintro e w1 ⟨A, rfl, hb, _, _, _⟩
    go_wp2_with fail
    go_ret
    exact ⟨rfl, hb⟩
  rw [if_neg h2]
  have hle : l ≠ [] := fun e => h2 (if_pos e)
  have hn0 : (names l).length ≠ 0 := fun e => h2 (List.eq_nil_of_length_eq_zero e)
  have hz : (((names l).length : Int) == 0) = false := by rw [beq_eq_false_iff_ne]; omega
  generalize names l = ns at *
  have H2 := Aside0.mk h2
  have HLE := Aside0.mk hle
  clear h2 hle
  by_cases h3 : ns.all nameP = false
  · rw [if_pos h3]
    have H3 := Aside0.mk h3
    clear h3
    go_enter Tryd.func26, Tryd.ntmps26
    go_wp2_with fail
    refine HP.out.mono ?_
    rintro e w1 ⟨A, rfl, hb, _, hC, hA⟩
    have HA := Aside0.mk (hA HLE.out)
    clear hA
    go_wp2_with fail
    have hc := contains_calls (w := w1) H2.out HA.out hC
    rw [H3.out] at hc
    refine hc.mono ?_
    rintro e w2 ⟨rfl, q, rfl⟩
    clear hc
    go_wp2_with fail
    go_ret
    exact ⟨rfl, pw_below_drewN hb _⟩
  rw [if_neg h3]
  have h3' : ns.all nameP = true := by simpa using h3
  have H3 := Aside0.mk h3'
  clear h3 h3'
  by_cases h4 : 8 < ns.length
  · rw [if_pos h4]
    have h4' : (8 : Int) < ns.length := by omega
    go_enter Tryd.func26, Tryd.ntmps26
    go_wp2_with fail
    refine HP.out.mono ?_
    rintro e w1 ⟨A, rfl, hb, _, hC, hA⟩
    have HA := Aside0.mk (hA HLE.out)
    clear hA
    go_wp2_with fail
    have hc := contains_calls (w := w1) H2.out HA.out hC
    rw [H3.out] at hc
    refine hc.mono ?_
    rintro e w2 ⟨rfl, q, rfl⟩
    clear hc
    go_wp2_with fail
    go_ret
    exact ⟨rfl, pw_below_drewN hb _⟩
  · rw [if_neg h4]
    have h4' : ¬ (8 : Int) < ns.length := by omega
    go_enter Tryd.func26, Tryd.ntmps26
    go_wp2_with fail
    refine HP.out.mono ?_
    rintro e w1 ⟨A, rfl, hb, _, hC, hA⟩
    have HA := Aside0.mk (hA HLE.out)
    clear hA
    go_wp2_with fail
    have hc := contains_calls (w := w1) H2.out HA.out hC
    rw [H3.out] at hc
    refine hc.mono ?_
    rintro e w2 ⟨rfl, q, rfl⟩
    clear hc
    go_wp2_with fail
    go_ret
    exact ⟨rfl, pw_below_drewN hb _⟩
end Go.Proofs.YtfjjikabinelgaaDoor
