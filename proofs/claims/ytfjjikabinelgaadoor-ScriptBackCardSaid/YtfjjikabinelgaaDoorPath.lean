/- Walks of package path: names and paths. -/
import Derived.Test.YtfjjikabinelgaaDoorCut
namespace Go.Proofs.YtfjjikabinelgaaDoor
open Go.RowKit Go.Proofs.YtfjjikabinelgaaDoorW.PrintWords Sc
set_option linter.unusedVariables false
set_option linter.unusedSimpArgs false

theorem okByte_eq (c : UInt8) : okByte c = (decide (33 ≤ (c.toNat : Int)) && decide ((c.toNat : Int) ≤ 126) && !((c.toNat : Int) == 47)) := by
  rw [Bool.eq_iff_iff]
  simp only [okByte, Bool.and_eq_true, decide_eq_true_eq, Bool.not_eq_true', beq_eq_false_iff_ne, ne_eq]
  omega

/-- A text that is no name by its length or as it stands. -/
theorem name_no (s : ByteArray) (w : World) (h : s.toList = [] ∨ 32 < s.size ∨ s.toList = [46] ∨ s.toList = [46, 46]) :
    Calls Tryd.prog 52 #[.string s] w fun e w' => e = .returned (.bool false) ∧ w' = w := by
  by_cases h1 : s.toList = []
  · have b1 : (s.toList == []) = true := by simpa using h1
    go_enter Tryd.func52, Tryd.ntmps52
    go_wp2
    go_ret
    exact ⟨rfl, rfl⟩
  have b1 : s.toList.isEmpty = false := by simpa using h1
  have b1' : (s.toList == []) = false := by simpa using h1
  by_cases h2 : 32 < s.size
  · clear h h1
    go_enter Tryd.func52, Tryd.ntmps52
    go_wp2
    go_ret
    exact ⟨rfl, rfl⟩
  have b2 : ¬ (32 : Int) < s.size := by omega
  by_cases h3 : s.toList = [46]
  · have b3 : (s.toList == [46]) = true := by simpa using h3
    clear h h1 h2 h3
    go_enter Tryd.func52, Tryd.ntmps52
    go_wp2
    go_ret
    exact ⟨rfl, rfl⟩
  have b3 : (s.toList == [46]) = false := by simpa using h3
  by_cases h4 : s.toList = [46, 46]
  · have b4 : (s.toList == [46, 46]) = true := by simpa using h4
    clear h h1 h2 h3 h4
    go_enter Tryd.func52, Tryd.ntmps52
    go_wp2
    go_ret
    exact ⟨rfl, rfl⟩
  · exfalso
    rcases h with h | h | h | h
    · exact h1 h
    · exact h2 h
    · exact h3 h
    · exact h4 h

theorem all_take_succ (l : List UInt8) (k : Nat) (h : k < l.length) : (l.take (k + 1)).all okByte = ((l.take k).all okByte && okByte l[k]) := by
  rw [List.take_succ_eq_append_getElem h, List.all_append]
  simp

def nmAll (s : ByteArray) : Bool := s.data.toList.all okByte

set_option maxHeartbeats 800000 in
theorem name_yes (s : ByteArray) (w : World) (h1 : s.toList ≠ []) (h2 : ¬ 32 < s.size) (h3 : s.toList ≠ [46]) (h4 : s.toList ≠ [46, 46]) :
    Calls Tryd.prog 52 #[.string s] w fun e w' => e = .returned (.bool (nmAll s)) ∧ w' = w := by
  have b1 : s.toList.isEmpty = false := by simpa using h1
  have b1' : (s.toList == []) = false := by simpa using h1
  have b2 : ¬ (32 : Int) < s.size := by omega
  have b3 : (s.toList == [46]) = false := by simpa using h3
  have b4 : (s.toList == [46, 46]) = false := by simpa using h4
  have hl : s.data.toList.length = s.size := data_length s
  have HL := Aside0.mk hl
  clear h1 h3 h4 hl
  go_enter Tryd.func52, Tryd.ntmps52
  go_wp2
  go_loop [3, 4, 22] (fun _ _ i => ∃ k : Nat, i = .int .i64 k ∧ k ≤ s.size ∧ Aside0 ((s.data.toList.take k).all okByte = true)) (fun _ _ i => s.size - (intOf i).toNat)
  case atStart => exact ⟨0, rfl, by omega, Aside0.mk rfl⟩
  case round =>
    obtain ⟨k, rfl, hk, HA⟩ := hrel
    by_cases hlt : k < s.size
    · have hlt' : (k : Int) < s.size := by omega
      have hkl : k < s.data.toList.length := by rw [HL.out]; exact hlt
      have hsucc := all_take_succ s.data.toList k hkl
      have hget : s.data.toList[k] = s[k] := rfl
      rw [HA.out, Bool.true_and, hget] at hsucc
      have hdrop : nmAll s = ((s.data.toList.take (k + 1)).all okByte && (s.data.toList.drop (k + 1)).all okByte) := by
        unfold nmAll
        conv => lhs; rw [← List.take_append_drop (k + 1) s.data.toList]
        exact List.all_append
      rw [hsucc] at hdrop
      have HS := Aside0.mk hsucc
      have HD := Aside0.mk hdrop
      clear hsucc hdrop hget
      have hb := okByte_eq s[k]
      generalize hc : s[k] = c at *
      have HC := Aside0.mk hc
      have HB := Aside0.mk hb
      have hc1 := c.toNat_lt
      clear hb
      by_cases q1 : c.toNat = 47
      · have Q1 := Aside0.mk q1
        have p1 : ((c.toNat : Int) == 47) = true := by rw [beq_iff_eq]; omega
        clear q1
        go_wp2
        go_ret
        refine ⟨?_, rfl⟩
        rw [HD.out, HB.out, p1]; simp
      · have p1 : ((c.toNat : Int) == 47) = false := by rw [beq_eq_false_iff_ne]; omega
        by_cases q2 : (c.toNat : Int) ≤ 32
        · go_wp2
          go_ret
          refine ⟨?_, rfl⟩
          rw [HD.out, HB.out, show decide (33 ≤ (c.toNat : Int)) = false from decide_eq_false (by omega)]; rfl
        · by_cases q3 : (126 : Int) < c.toNat
          · go_wp2
            go_ret
            refine ⟨?_, rfl⟩
            rw [HD.out, HB.out, show decide ((c.toNat : Int) ≤ 126) = false from decide_eq_false (by omega)]; simp
          · go_wp2
            go_round
            case rel =>
              refine ⟨k + 1, by go_num, by omega, Aside0.mk ?_⟩
              rw [HS.out, HB.out, p1, show decide (33 ≤ (c.toNat : Int)) = true from decide_eq_true (by omega), show decide ((c.toNat : Int) ≤ 126) = true from decide_eq_true (by omega)]; rfl
            case measure => simp [intOf]; omega
    · have hks : k = s.size := by omega
      have he : s.data.toList.take k = s.data.toList := List.take_of_length_le (by rw [HL.out]; omega)
      have HE := Aside0.mk he
      clear he
      go_wp2
      go_ret
      refine ⟨?_, rfl⟩
      have := HA.out
      rw [HE.out] at this
      have e : nmAll s = true := this
      rw [e]
      rfl

theorem name_calls (s : ByteArray) (w : World) : Calls Tryd.prog 52 #[.string s] w fun e w' => e = .returned (.bool (nameP s.data.toList)) ∧ w' = w := by
  have et : s.toList = s.data.toList := ByteArray.toList_eq s
  have el : s.data.toList.length = s.size := data_length s
  by_cases h : s.toList = [] ∨ 32 < s.size ∨ s.toList = [46] ∨ s.toList = [46, 46]
  · have e : nameP s.data.toList = false := by
      unfold nameP
      rw [el]
      rw [et] at h
      rcases h with h | h | h | h
      · have : s.size = 0 := by rw [← el, h]; rfl
        simp [this]
      · have : ¬ s.size ≤ 32 := by omega
        simp [this]
      · simp [h]
      · simp [h]
    rw [e]
    exact name_no s w h
  · simp only [not_or] at h
    obtain ⟨h1, h2, h3, h4⟩ := h
    have e : nameP s.data.toList = s.data.toList.all okByte := by
      unfold nameP
      rw [el]
      have h0 : 1 ≤ s.size := by
        rcases Nat.eq_zero_or_pos s.size with h0 | h0
        · exact absurd (by rw [et]; exact List.eq_nil_of_length_eq_zero (by rw [el]; exact h0)) h1
        · exact h0
      rw [et] at h3 h4
      simp [h0, h3, h4]
      intro _
      omega
    rw [e]
    exact name_yes s w h1 h2 h3 h4

theorem notName_calls (s : ByteArray) (w : World) : Calls Tryd.prog 51 #[.string s] w fun e w' => e = .returned (.bool (!nameP s.data.toList)) ∧ w' = w := by
  go_enter Tryd.func51, Tryd.ntmps51
  go_wp2_with (go_at_call 52; refine (name_calls _ _).mono ?_; rintro e w' ⟨rfl, rfl⟩)
  go_ret
  exact ⟨rfl, rfl⟩

theorem psplit_calls (l : List UInt8) (hl : l.length < 4294967281) (w : World) (he : Env w) :
    Calls Tryd.prog 49 #[.string (str l)] w fun e w' => ∃ A, e = .returned (.slice A (names l).length (names l).length) ∧ Below w.heap.size w w' ∧ (∀ ad, A = some ad → ad = ⟨w.heap.size, 0, none⟩) ∧ Kd.C Kd.string w' A ((names l).map str).length ((names l).map str) ∧ (l ≠ [] → A = some ⟨w.heap.size, 0, none⟩) := by
  have et : (str l).toList = l := str_toList l
  by_cases h : l = []
  · subst h
    have hb : ((str []).toList == []) = true := by rw [et]; rfl
    clear et
    go_enter Tryd.func49, Tryd.ntmps49
    go_wp2_with fail
    go_ret
    exact ⟨none, rfl, Below.refl _ _, (fun ad e => by cases e), Kd.C_nil _ _, fun e => absurd rfl e⟩
  · have hb : ((str l).toList == []) = false := by rw [et]; simpa using h
    have hb2 : (str l).toList.isEmpty = false := by rw [et]; simpa using h
    have hn : names l = spl 47 l := if_neg h
    rw [hn]
    have H := Aside0.mk (split_calls 47 l hl w he)
    have hlen : (spl 47 l).length ≤ 4294967296 := by
      have h1 := spl_len 47 l
      have h2 : l.count 47 ≤ l.length := List.count_le_length
      omega
    have HH := Aside0.mk h
    clear et hn h
    go_enter Tryd.func49, Tryd.ntmps49
    go_wp2_with (go_at_call 21; refine H.out.mono ?_; rintro e w' ⟨rfl, rfl⟩)
    go_ret
    exact ⟨_, rfl, (Below.refl _ _).alloc (Nat.le_refl _) _, fun ad e => by injection e with e; exact e.symm, strs_reads _ _ (by omega), fun _ => rfl⟩

theorem any_not (l : List (List UInt8)) : (l.map str).any (fun s => !nameP s.data.toList) = !(l.all nameP) := by
  induction l with
  | nil => rfl
  | cons x r ih => simp only [List.map_cons, List.any_cons, List.all_cons, ih, str_list, Bool.not_and]

theorem pred_at (w : World) : PredAt Tryd.prog 51 #[] Value.string (fun s => !nameP s.data.toList) w := fun W x _ =>
  (notName_calls x W).mono fun e w' ⟨he, hw⟩ => ⟨he, 0, hw⟩
end Go.Proofs.YtfjjikabinelgaaDoor
