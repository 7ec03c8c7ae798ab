/- Walks of the library's functions and of the script's line. -/
import Derived.Test.YtfjjikabinelgaaDoorShelf
import Derived.Test.YtfjjikabinelgaaDoorMBase
import Derived.WalkSmall
import Derived.Lib.ItoaMem
import Derived.WalkKit
import Derived.BigCall
import Derived.BigGuard
import Derived.Test.YtfjjikabinelgaaDoorMPlain
import Derived.Shelf.Pu.Lays
import Derived.Shelf.Pu.Lower
import Derived.Lib.Strings
import Derived.Lib.Walk
import Derived.Lib.ConvBytes
import Derived.Lib.ParseIntBMem
import Derived.Lib.Hide
import Derived.Laws.Strings3
import Derived.Laws.Closers25
import Derived.Laws.Closers25b
import Derived.Shelf.Pu.ParseUintPublic10
namespace Go.Proofs.YtfjjikabinelgaaDoor
open Go.RowKit Go.Sort Go.Proofs.YtfjjikabinelgaaDoorW.PrintWords
set_option linter.unusedVariables false
set_option linter.unusedSimpArgs false

/-- What the library's functions read of package-level variables. -/
structure Env (w : World) : Prop where
  maxLen : ∃ m, w.cell? ⟨1, 0, none⟩ = some (.int .i64 m)
  synt : ∃ t p, w.cell? ⟨2, 0, none⟩ = some (.iface t p)
  rang : ∃ t p, w.cell? ⟨3, 0, none⟩ = some (.iface t p)
  pow10 : Lib.TabIs Tryd.prog w "internal/strconv.uint64pow10" .u64 Lib.pow10Tab

theorem gPow : Tryd.prog.globalNamed "internal/strconv.uint64pow10" = some 0 := by kernel_rfl

theorem tab_below {w w1 : World} (h : Lib.TabIs Tryd.prog w "internal/strconv.uint64pow10" .u64 Lib.pow10Tab) (hb : Below w.heap.size w w1) : Lib.TabIs Tryd.prog w1 "internal/strconv.uint64pow10" .u64 Lib.pow10Tab := by
  have hlt : 0 < w.heap.size := by
    unfold Lib.TabIs World.var? at h
    rw [gPow] at h
    rcases Nat.eq_zero_or_pos w.heap.size with h0 | h0
    · simp [Array.getElem?_eq_none (show w.heap.size ≤ 0 by omega)] at h
    · exact h0
  exact var?_below hb gPow hlt h

theorem Env.below {w w1 : World} (h : Env w) (hb : Below w.heap.size w w1) : Env w1 := by
  obtain ⟨m, hm⟩ := h.maxLen
  obtain ⟨t, p, hs⟩ := h.synt
  obtain ⟨t', p', hr⟩ := h.rang
  exact ⟨⟨m, pw_cell_below hb hm⟩, ⟨t, p, pw_cell_below hb hs⟩, ⟨t', p', pw_cell_below hb hr⟩, tab_below h.pow10 hb⟩

theorem below_put {w : World} (o : Obj) (dk : Array UInt8) (k off : Nat) : Below w.heap.size w ((putRow (fun (b : UInt8) => Value.int .u8 (b.toNat : Int)) (w.alloc o) w.heap.size off dk).drewN k) := by
  refine pw_below_drewN ?_ _
  unfold putRow
  refine ((Below.refl _ _).alloc (Nat.le_refl _) o).trans ⟨rfl, rfl, rfl, by simp [mapBlock], fun i hi => ?_⟩
  unfold mapBlock
  simp only [Array.getElem?_modify]
  rw [if_neg (by omega)]

theorem holds_zero0 (w : World) (T : TypeId) (nd : Nat) (hs : nd ≤ 24) : Holds (fun (b : UInt8) => Value.int .u8 (b.toNat : Int)) (w.alloc (.cells Lib.zeros24 T)) w.heap.size 0 (Array.replicate nd (0 : UInt8)) := fun j hj => by
  have hj' : j < nd := by simpa using hj
  refine ⟨?_, World.frozen?_alloc_new _ _ _ _⟩
  rw [World.cell?_alloc_new, Lib.zeros24_at _ (by omega), getElem!_pos _ j hj]
  simp

set_option maxHeartbeats 1600000 in
set_option maxRecDepth 100000 in
theorem format_inner (u : Nat) (hu64 : u < 18446744073709551616) (w : World) (htab : Lib.TabIs Tryd.prog w "internal/strconv.uint64pow10" .u64 Lib.pow10Tab) :
    Calls Tryd.prog 56 #[.int .u64 u, .int .i64 10] w fun e w' => e = .returned (.string ⟨(Lib.decDigits u).toArray⟩) ∧ Below w.heap.size w w' := by
  by_cases hs : u < 100
  · go_enter Tryd.func56, Tryd.ntmps56
    go_wp2_with (go_at_call 71; refine (Tryd.internal_strconv_small u hs _).mono ?_; rintro e w' ⟨rfl, rfl⟩)
    go_ret
    exact ⟨rfl, Below.refl _ _⟩
  · have hu1 : 1 ≤ u := by omega
    have hnd20 : Lib.nDigits u ≤ 20 := by have := Lib.numDigits_eq u hu1 hu64; split at this <;> omega
    have hal : Tryd.prog.arrayLen 114 = 24 := by kernel_rfl
    have hsl1 : ∀ W, (Instr.sliceAt 114 (.pointer (some ⟨w.heap.size, 0, none⟩)) none (some (.int .i64 (Lib.nDigits u : Int))) none).run Tryd.prog W = .ok (.slice (some ⟨w.heap.size, 0, none⟩) (Lib.nDigits u) 24) W := fun W => by
      rw [run_sliceAt_array_h W 114 ⟨w.heap.size, 0, none⟩ (by simp [Program.arrayLen, Program.elem, Tryd.underlying114]) .i64 (Lib.nDigits u : Int) (by omega) (by rw [hal]; omega)]
      go_simp
    have hH0 := holds_zero0 w 114 (Lib.nDigits u) (by omega)
    have hfmt := Tryd.internal_strconv_formatBase10 w.heap.size 0 24 u (Array.replicate (Lib.nDigits u) 0) (w.alloc (.cells Lib.zeros24 114)) hH0 (by rw [Array.size_replicate]; exact Lib.lt_pow_nDigits u) hu64 (by rw [Array.size_replicate]; omega)
    rw [Array.size_replicate] at hfmt
    have HH0 := Aside0.mk hH0
    clear hH0 hal
    go_enter Tryd.func56, Tryd.ntmps56
    go_wp2_with (go_at_call 72; refine (Tryd.internal_strconv_numDigits u hu1 hu64 _ (Lib.tabIs_alloc htab _)).mono ?_; rintro e w' ⟨rfl, rfl⟩)
    refine hfmt.mono ?_
    rintro e w' ⟨rfl, k, v', dk, rfl, hF⟩
    have hcv : (convert 22 9 (.slice (some ⟨w.heap.size, 0, none⟩) (Lib.nDigits u) 24)).run Tryd.prog ((putRow (fun (b : UInt8) => Value.int .u8 (b.toNat : Int)) (w.alloc (.cells Lib.zeros24 114)) w.heap.size 0 dk).drewN k) = .ok (.string ⟨(Lib.decDigits u).toArray⟩) ((putRow (fun (b : UInt8) => Value.int .u8 (b.toNat : Int)) (w.alloc (.cells Lib.zeros24 114)) w.heap.size 0 dk).drewN k) := by
      have h := run_convert_bytes_back (P := Tryd.prog) ((putRow (fun (b : UInt8) => Value.int .u8 (b.toNat : Int)) (w.alloc (.cells Lib.zeros24 114)) w.heap.size 0 dk).drewN k) 22 9 5 ⟨w.heap.size, 0, none⟩ 24 (Lib.decDigits u) Tryd.underlying22 Tryd.underlying5 Tryd.underlying9 (fun j hj => by
        rw [Lib.row_is_numeral hF j hj, Lib.add_plain, World.cell?_drewN]
        exact cell?_putRow (fun (b : UInt8) => Value.int .u8 (b.toNat : Int)) _ w.heap.size 0 _ dk HH0.out (by rw [hF.size, Array.size_replicate]) j (by rw [hF.size]; rw [Lib.decDigits_length] at hj; exact hj))
      rw [Lib.decDigits_length] at h
      exact h
    go_wp2
    go_ret
    exact ⟨rfl, below_put _ _ _ _⟩

theorem format_calls (u : Nat) (hu64 : u < 18446744073709551616) (w : World) (htab : Lib.TabIs Tryd.prog w "internal/strconv.uint64pow10" .u64 Lib.pow10Tab) :
    Calls Tryd.prog 36 #[.int .u64 u, .int .i64 10] w fun e w' => e = .returned (.string ⟨(Lib.decDigits u).toArray⟩) ∧ Below w.heap.size w w' := by
  go_enter Tryd.func36, Tryd.ntmps36
  go_wp2_with (go_at_call 56; refine (format_inner u hu64 _ htab).mono ?_; rintro e w' ⟨rfl, hb⟩)
  go_ret
  exact ⟨rfl, hb⟩
end Go.Proofs.YtfjjikabinelgaaDoor
namespace Go.Proofs.YtfjjikabinelgaaDoor
open Go.Shelf Go.RowKit
section
variable {P : Program} {ρ : Ren}

set_option maxHeartbeats 32000000 in
set_option maxRecDepth 100000 in
theorem ParseUint_10_b1 (L : Go.Proofs.LaysPu.n16 P ρ) (t : ByteArray) (hne : t.size ≠ 0) (hmax : t.size ≤ 9223372036854775806) (w : World) :
    Calls P (ρ.f 16) #[.string t, .int .i64 10, .int .i64 1] w fun e w' => e = .returned (Lib.uintTupleM (ρ.t 34) 1 (Lib.parseUintM 1 0 t.data.toList)) ∧ w' = Lib.bytesWorld w (ρ.t 5) t := by
  have mixed := L.mixed
  have t9 := L.t9; have a9 := L.a9; have z9 := L.z9; have v9 := L.v9
  have t3 := L.t3; have a3 := L.a3; have z3 := L.z3; have v3 := L.v3
  have t22 := L.t22; have a22 := L.a22; have z22 := L.z22; have v22 := L.v22
  have t24 := L.t24; have a24 := L.a24; have z24 := L.z24; have v24 := L.v24
  have t4 := L.t4; have a4 := L.a4; have z4 := L.z4; have v4 := L.v4
  have t34 := L.t34; have a34 := L.a34; have z34 := L.z34; have v34 := L.v34
  have t5 := L.t5; have a5 := L.a5; have z5 := L.z5; have v5 := L.v5
  have t36 := L.t36; have a36 := L.a36; have z36 := L.z36; have v36 := L.v36
  have t37 := L.t37; have a37 := L.a37; have z37 := L.z37; have v37 := L.v37
  have t0 := L.t0; have a0 := L.a0; have z0 := L.z0; have v0 := L.v0
  have e19 : ∀ args w, (callFunc (ρ.f 19) args).run P w = .ok (.enter (ρ.f 19) args) w := enters_of L.f19 (by kernel_rfl) rfl
  have hemp : t.toList.isEmpty = false := by
    rw [← decide_eq_emptyBytes]
    exact decide_eq_false (fun h => hne (by rw [h]; rfl))
  have hcv := Lib.run_convert_string_bytes (P := P) w (ρ.t 9) (ρ.t 37) (ρ.t 5) t (u := .string) L.t9 L.t37 L.t5
  have hB : ∀ j, j < t.size → (Lib.bytesWorld w (ρ.t 5) t).cell? ⟨w.heap.size, j, none⟩ = some (.int .u8 (t.data.toList.getD j 0).toNat) := fun j hj => Lib.bytesWorld_cell w (ρ.t 5) t j hj
  obtain ⟨W1, hW1⟩ : ∃ W1, W1 = Lib.bytesWorld w (ρ.t 5) t := ⟨_, rfl⟩
  rw [← hW1] at hcv hB ⊢
  clear hW1
  obtain ⟨bs, hL⟩ : ∃ bs, bs = t.data.toList := ⟨_, rfl⟩
  have hLn : bs.length = t.size := by rw [hL, Lib.size_eq]
  rw [← hL] at hB ⊢
  clear hL
  have hmv : IntKind.u64.wrap (IntKind.u64.wrap 2 - 1) = 1 := by
    rw [IntKind.wrap_u64, IntKind.wrap_u64]
    decide
  go_enter L.f16, Go.Proofs.BodyPu.n16_ntmps ρ
  go_wp2
  go_loop [12, 13, 101] (fun vu vn vi => ∃ (k acc : Nat) (a : Int), vu = .bool false ∧ vn = .int .u64 a ∧ vi = .int .i64 k ∧ k ≤ t.size ∧ Hid (a = (acc : Int) ∧ acc ≤ 1 ∧ Lib.parseUintM 1 0 bs = Lib.parseUintM 1 acc (bs.drop k)))
    (fun _ _ vi => t.size - (intOf vi).toNat)
  case atStart => exact ⟨0, 0, 0, rfl, rfl, rfl, by omega, rfl, by omega, rfl⟩
  case round =>
    obtain ⟨k, acc, a, rfl, rfl, rfl, hk, hh⟩ := hrel
    obtain ⟨ha, hacc, hdec⟩ := hh.out
    clear hh
    have a0 : 0 ≤ a := by omega
    have a1 : a ≤ 1 := by omega
    by_cases hkn : k < t.size
    · have hc := hB k hkn
      have hdrop : bs.drop k = bs[k]'(by omega) :: bs.drop (k + 1) := List.drop_eq_getElem_cons (by omega)
      have hget : bs.getD k 0 = bs[k]'(by omega) := by simp [List.getD, List.getElem?_eq_getElem (show k < bs.length by omega)]
      rw [hdrop] at hdec
      rw [hget] at hc
      generalize bs[k]'(by omega) = c at hc hdec
      have hc256 : c.toNat < 256 := c.toNat_lt
      clear hB hdrop hget
      by_cases hdig : 48 ≤ c.toNat ∧ c.toNat ≤ 57
      · obtain ⟨hd0, hd1⟩ := hdig
        have hcut : ¬ 1844674407370955162 ≤ acc := by omega
        by_cases hov : 1 < acc * 10 + (c.toNat - 48)
        ·
          have hF : Lib.parseUintM 1 acc (c :: bs.drop (k + 1)) = .range := by simp [Lib.parseUintM, hd0, hd1, hcut, hov]
          rw [hF] at hdec
          have iov : 1 < a * 10 + ((c.toNat : Int) - 48) := by omega
          clear hcut hacc hF hov ha
          go_wp2
          go_ret2
          exact ⟨rfl, rfl⟩
        · have hF : Lib.parseUintM 1 acc (c :: bs.drop (k + 1)) = Lib.parseUintM 1 (acc * 10 + (c.toNat - 48)) (bs.drop (k + 1)) := by simp [Lib.parseUintM, hd0, hd1, hcut, hov]
          have HN : Hid (a * 10 + ((c.toNat : Int) - 48) = ((acc * 10 + (c.toNat - 48) : Nat) : Int) ∧ acc * 10 + (c.toNat - 48) ≤ 1 ∧ Lib.parseUintM 1 0 bs = Lib.parseUintM 1 (acc * 10 + (c.toNat - 48)) (bs.drop (k + 1))) := Lib.hid ⟨by omega, by omega, hdec.trans hF⟩
          have iov : a * 10 + ((c.toNat : Int) - 48) ≤ 1 := by omega
          clear hcut hacc hF hov hdec ha
          go_wp2
          refine ⟨⟨k + 1, acc * 10 + (c.toNat - 48), a * 10 + ((c.toNat : Int) - 48), rfl, (by first | rfl | (congr 1; omega)), (by first | rfl | (congr 1; omega)), by omega, HN⟩, by simp [intOf]; omega⟩
      ·
        have hF : Lib.parseUintM 1 acc (c :: bs.drop (k + 1)) = Lib.parseUintB 1 [] := by simp [Lib.parseUintM, hdig, Lib.parseUintB]
        rw [hF] at hdec
        clear hacc hF ha
        have hv0 := bits_lo_u8 .or (c.toNat : Int) 32
        have hv1 := bits_hi_u8 .or (c.toNat : Int) 32
        have hu0 := bits_lo_u8 .or 95 32
        have hu1 := bits_hi_u8 .or 95 32
        go_wp2_with (go_at_fn (ρ.f 19); refine (Go.Proofs.AnyPu.internal_strconv_lower { L with } _ _).mono ?_; rintro e w' ⟨rfl, rfl⟩)
        all_goals go_ret2
        all_goals first | exact ⟨rfl, rfl⟩ | exact ⟨by rw [hdec]; rfl, rfl⟩
    ·
      have hkk : k = t.size := by omega
      subst hkk
      have hF : Lib.parseUintM 1 acc (bs.drop t.size) = .ok acc := by rw [List.drop_eq_nil_of_le (by omega)]; rfl
      rw [hF] at hdec
      subst ha
      clear hacc hF a0 a1
      go_wp2
      go_ret2
      exact ⟨rfl, rfl⟩

set_option maxHeartbeats 32000000 in
set_option maxRecDepth 100000 in
theorem ParseUint_10_b60 (L : Go.Proofs.LaysPu.n16 P ρ) (t : ByteArray) (hne : t.size ≠ 0) (hmax : t.size ≤ 9223372036854775806) (w : World) :
    Calls P (ρ.f 16) #[.string t, .int .i64 10, .int .i64 60] w fun e w' => e = .returned (Lib.uintTupleM (ρ.t 34) 1152921504606846975 (Lib.parseUintM 1152921504606846975 0 t.data.toList)) ∧ w' = Lib.bytesWorld w (ρ.t 5) t := by
  have mixed := L.mixed
  have t9 := L.t9; have a9 := L.a9; have z9 := L.z9; have v9 := L.v9
  have t3 := L.t3; have a3 := L.a3; have z3 := L.z3; have v3 := L.v3
  have t22 := L.t22; have a22 := L.a22; have z22 := L.z22; have v22 := L.v22
  have t24 := L.t24; have a24 := L.a24; have z24 := L.z24; have v24 := L.v24
  have t4 := L.t4; have a4 := L.a4; have z4 := L.z4; have v4 := L.v4
  have t34 := L.t34; have a34 := L.a34; have z34 := L.z34; have v34 := L.v34
  have t5 := L.t5; have a5 := L.a5; have z5 := L.z5; have v5 := L.v5
  have t36 := L.t36; have a36 := L.a36; have z36 := L.z36; have v36 := L.v36
  have t37 := L.t37; have a37 := L.a37; have z37 := L.z37; have v37 := L.v37
  have t0 := L.t0; have a0 := L.a0; have z0 := L.z0; have v0 := L.v0
  have e19 : ∀ args w, (callFunc (ρ.f 19) args).run P w = .ok (.enter (ρ.f 19) args) w := enters_of L.f19 (by kernel_rfl) rfl
  have hemp : t.toList.isEmpty = false := by
    rw [← decide_eq_emptyBytes]
    exact decide_eq_false (fun h => hne (by rw [h]; rfl))
  have hcv := Lib.run_convert_string_bytes (P := P) w (ρ.t 9) (ρ.t 37) (ρ.t 5) t (u := .string) L.t9 L.t37 L.t5
  have hB : ∀ j, j < t.size → (Lib.bytesWorld w (ρ.t 5) t).cell? ⟨w.heap.size, j, none⟩ = some (.int .u8 (t.data.toList.getD j 0).toNat) := fun j hj => Lib.bytesWorld_cell w (ρ.t 5) t j hj
  obtain ⟨W1, hW1⟩ : ∃ W1, W1 = Lib.bytesWorld w (ρ.t 5) t := ⟨_, rfl⟩
  rw [← hW1] at hcv hB ⊢
  clear hW1
  obtain ⟨bs, hL⟩ : ∃ bs, bs = t.data.toList := ⟨_, rfl⟩
  have hLn : bs.length = t.size := by rw [hL, Lib.size_eq]
  rw [← hL] at hB ⊢
  clear hL
  have hmv : IntKind.u64.wrap (IntKind.u64.wrap 1152921504606846976 - 1) = 1152921504606846975 := by
    rw [IntKind.wrap_u64, IntKind.wrap_u64]
    decide
  go_enter L.f16, Go.Proofs.BodyPu.n16_ntmps ρ
  go_wp2
  go_loop [12, 13, 101] (fun vu vn vi => ∃ (k acc : Nat) (a : Int), vu = .bool false ∧ vn = .int .u64 a ∧ vi = .int .i64 k ∧ k ≤ t.size ∧ Hid (a = (acc : Int) ∧ acc ≤ 1152921504606846975 ∧ Lib.parseUintM 1152921504606846975 0 bs = Lib.parseUintM 1152921504606846975 acc (bs.drop k)))
    (fun _ _ vi => t.size - (intOf vi).toNat)
  case atStart => exact ⟨0, 0, 0, rfl, rfl, rfl, by omega, rfl, by omega, rfl⟩
  case round =>
    obtain ⟨k, acc, a, rfl, rfl, rfl, hk, hh⟩ := hrel
    obtain ⟨ha, hacc, hdec⟩ := hh.out
    clear hh
    have a0 : 0 ≤ a := by omega
    have a1 : a ≤ 1152921504606846975 := by omega
    by_cases hkn : k < t.size
    · have hc := hB k hkn
      have hdrop : bs.drop k = bs[k]'(by omega) :: bs.drop (k + 1) := List.drop_eq_getElem_cons (by omega)
      have hget : bs.getD k 0 = bs[k]'(by omega) := by simp [List.getD, List.getElem?_eq_getElem (show k < bs.length by omega)]
      rw [hdrop] at hdec
      rw [hget] at hc
      generalize bs[k]'(by omega) = c at hc hdec
      have hc256 : c.toNat < 256 := c.toNat_lt
      clear hB hdrop hget
      by_cases hdig : 48 ≤ c.toNat ∧ c.toNat ≤ 57
      · obtain ⟨hd0, hd1⟩ := hdig
        have hcut : ¬ 1844674407370955162 ≤ acc := by omega
        by_cases hov : 1152921504606846975 < acc * 10 + (c.toNat - 48)
        ·
          have hF : Lib.parseUintM 1152921504606846975 acc (c :: bs.drop (k + 1)) = .range := by simp [Lib.parseUintM, hd0, hd1, hcut, hov]
          rw [hF] at hdec
          have iov : 1152921504606846975 < a * 10 + ((c.toNat : Int) - 48) := by omega
          clear hcut hacc hF hov ha
          go_wp2
          go_ret2
          exact ⟨rfl, rfl⟩
        · have hF : Lib.parseUintM 1152921504606846975 acc (c :: bs.drop (k + 1)) = Lib.parseUintM 1152921504606846975 (acc * 10 + (c.toNat - 48)) (bs.drop (k + 1)) := by simp [Lib.parseUintM, hd0, hd1, hcut, hov]
          have HN : Hid (a * 10 + ((c.toNat : Int) - 48) = ((acc * 10 + (c.toNat - 48) : Nat) : Int) ∧ acc * 10 + (c.toNat - 48) ≤ 1152921504606846975 ∧ Lib.parseUintM 1152921504606846975 0 bs = Lib.parseUintM 1152921504606846975 (acc * 10 + (c.toNat - 48)) (bs.drop (k + 1))) := Lib.hid ⟨by omega, by omega, hdec.trans hF⟩
          have iov : a * 10 + ((c.toNat : Int) - 48) ≤ 1152921504606846975 := by omega
          clear hcut hacc hF hov hdec ha
          go_wp2
          refine ⟨⟨k + 1, acc * 10 + (c.toNat - 48), a * 10 + ((c.toNat : Int) - 48), rfl, (by first | rfl | (congr 1; omega)), (by first | rfl | (congr 1; omega)), by omega, HN⟩, by simp [intOf]; omega⟩
      ·
        have hF : Lib.parseUintM 1152921504606846975 acc (c :: bs.drop (k + 1)) = Lib.parseUintB 1 [] := by simp [Lib.parseUintM, hdig, Lib.parseUintB]
        rw [hF] at hdec
        clear hacc hF ha
        have hv0 := bits_lo_u8 .or (c.toNat : Int) 32
        have hv1 := bits_hi_u8 .or (c.toNat : Int) 32
        have hu0 := bits_lo_u8 .or 95 32
        have hu1 := bits_hi_u8 .or 95 32
        go_wp2_with (go_at_fn (ρ.f 19); refine (Go.Proofs.AnyPu.internal_strconv_lower { L with } _ _).mono ?_; rintro e w' ⟨rfl, rfl⟩)
        all_goals go_ret2
        all_goals first | exact ⟨rfl, rfl⟩ | exact ⟨by rw [hdec]; rfl, rfl⟩
    ·
      have hkk : k = t.size := by omega
      subst hkk
      have hF : Lib.parseUintM 1152921504606846975 acc (bs.drop t.size) = .ok acc := by rw [List.drop_eq_nil_of_le (by omega)]; rfl
      rw [hF] at hdec
      subst ha
      clear hacc hF a0 a1
      go_wp2
      go_ret2
      exact ⟨rfl, rfl⟩

end
end Go.Proofs.YtfjjikabinelgaaDoor
namespace Go.Proofs.YtfjjikabinelgaaDoor
open Go.Shelf Go.RowKit Go.Proofs.YtfjjikabinelgaaDoorW.PrintWords Sc
set_option linter.unusedVariables false
set_option linter.unusedSimpArgs false

def Inner (B M : Nat) : Prop := ∀ (t : ByteArray) (w : World), t.size ≤ 9223372036854775806 →
  Calls Tryd.prog 66 #[.string t, .int .i64 10, .int .i64 B] w fun e w' => e = .returned (Lib.uintTupleM 122 M (Lib.parseUintB B t.data.toList)) ∧ (w' = w ∨ w' = Lib.bytesWorld w 5 t)

theorem inner_of (B M : Nat) (eM : 2 ^ B - 1 = M) (h : ∀ (t : ByteArray) (w : World), t.size ≠ 0 → t.size ≤ 9223372036854775806 →
    Calls Tryd.prog 66 #[.string t, .int .i64 10, .int .i64 B] w fun e w' => e = .returned (Lib.uintTupleM 122 M (Lib.parseUintM M 0 t.data.toList)) ∧ w' = Lib.bytesWorld w 5 t) : Inner B M := by
  intro t w hmax
  by_cases h0 : t.size = 0
  · have ht : t = ⟨#[]⟩ := by
      apply ByteArray.ext
      exact Array.eq_empty_of_size_eq_zero h0
    subst ht
    exact (AnyPu.internal_strconv_ParseUint_empty { Tryd.laysPu14 with } 10 B w).mono fun e w' ⟨he, hw⟩ => ⟨he, Or.inl hw⟩
  · have hne : t.data.toList ≠ [] := fun h => h0 (by rw [Lib.size_eq, h]; rfl)
    refine (h t w h0 hmax).mono fun e w' ⟨he, hw⟩ => ⟨?_, Or.inr hw⟩
    rw [he, Lib.parseUintB, if_neg hne, eM]

theorem inner1 : Inner 1 1 := inner_of 1 1 (by decide) fun t w h0 hm => ParseUint_10_b1 (ρ := Tryd.laysPu14_ren) { Tryd.laysPu14 with } t h0 hm w
theorem inner60 : Inner 60 1152921504606846975 := inner_of 60 1152921504606846975 (by decide) fun t w h0 hm => ParseUint_10_b60 (ρ := Tryd.laysPu14_ren) { Tryd.laysPu14 with } t h0 hm w
theorem inner32 : Inner 32 4294967295 := inner_of 32 4294967295 (by decide) fun t w h0 hm => AnyPu.internal_strconv_ParseUint_10_b32 (ρ := Tryd.laysPu14_ren) { Tryd.laysPu14 with } t h0 hm w

theorem below_bytes {w W1 : World} {s : ByteArray} (h : W1 = w ∨ W1 = Lib.bytesWorld w 5 s) : Below w.heap.size w W1 := by
  rcases h with rfl | rfl
  · exact Below.refl _ _
  · exact Lib.bytesWorld_below _ _ _

theorem parse_ok {B M : Nat} (I : Inner B M) (s : ByteArray) (hmax : s.size ≤ 281474976710656) (w : World) (u : Nat) (h : Lib.parseUintB B s.data.toList = .ok u) :
    Calls Tryd.prog 48 #[.string s, .int .i64 10, .int .i64 B] w fun e w' => e = .returned (.tuple #[.int .u64 u, .nilIface]) ∧ Below w.heap.size w w' := by
  have hI := I s w (by omega)
  rw [h] at hI
  have hI : Calls Tryd.prog 66 #[.string s, .int .i64 10, .int .i64 B] w fun e w' => e = .returned (.tuple #[.int .u64 u, .nilIface]) ∧ (w' = w ∨ w' = Lib.bytesWorld w 5 s) := hI
  have HI := Aside0.mk hI
  clear hI h I
  go_enter Tryd.func48, Tryd.ntmps48
  go_wp2_with (go_at_call 66; refine HI.out.mono ?_; rintro e W1 ⟨rfl, hW⟩)
  go_ret2
  exact ⟨rfl, below_bytes hW⟩

theorem parse_bad {B M : Nat} (I : Inner B M) (eM : 2 ^ B - 1 = M) (s : ByteArray) (hmax : s.size ≤ 281474976710656) (w : World) (he : Env w) (h : ∀ u, Lib.parseUintB B s.data.toList ≠ .ok u) :
    Calls Tryd.prog 48 #[.string s, .int .i64 10, .int .i64 B] w fun e w' => ∃ p, e = .returned (.tuple #[.int .u64 (numV B s.data.toList), .iface 124 p]) ∧ Below w.heap.size w w' := by
  have hI := I s w (by omega)
  unfold numV
  cases hp : Lib.parseUintB B s.data.toList with
  | ok u => exact absurd hp (h u)
  | range =>
    rw [hp, ← eM] at hI
    have hI : Calls Tryd.prog 66 #[.string s, .int .i64 10, .int .i64 B] w fun e w' => e = .returned (.tuple #[.int .u64 ((2 ^ B - 1 : Nat) : Int), .iface 122 (.int .i64 1)]) ∧ (w' = w ∨ w' = Lib.bytesWorld w 5 s) := hI
    have HI := Aside0.mk hI
    clear hI hp h I eM
    generalize 2 ^ B - 1 = Mx at *
    go_enter Tryd.func48, Tryd.ntmps48
    go_wp2_with (go_at_call 66; refine HI.out.mono ?_; rintro e W1 ⟨rfl, hW⟩)
    go_wp2_with fail
    obtain ⟨t, q, hs⟩ := (he.below (below_bytes hW)).rang
    have hb1 := Aside0.mk (below_bytes hW)
    clear hW
    refine (AnyPu.strconv_toError_range (ρ := Tryd.laysPu14_ren) { Tryd.laysPu14 with } ⟨#[80, 97, 114, 115, 101, 85, 105, 110, 116]⟩ s 10 B (.iface t q) _ hmax hs (.inr ⟨t, q, rfl⟩)).mono ?_
    rintro e W2 ⟨N, rfl, h1, h2, h3⟩
    go_wp2
    go_ret2
    exact ⟨_, rfl, hb1.out.trans (h3.mono hb1.out.size)⟩
  | _ =>
    rw [hp] at hI
    have hI : Calls Tryd.prog 66 #[.string s, .int .i64 10, .int .i64 B] w fun e w' => e = .returned (.tuple #[.int .u64 0, .iface 122 (.int .i64 2)]) ∧ (w' = w ∨ w' = Lib.bytesWorld w 5 s) := hI
    have HI := Aside0.mk hI
    clear hI hp h I eM
    go_enter Tryd.func48, Tryd.ntmps48
    go_wp2_with (go_at_call 66; refine HI.out.mono ?_; rintro e W1 ⟨rfl, hW⟩)
    go_wp2_with fail
    obtain ⟨t, q, hs⟩ := (he.below (below_bytes hW)).synt
    have hb1 := Aside0.mk (below_bytes hW)
    clear hW
    refine (AnyPu.strconv_toError_syntax (ρ := Tryd.laysPu14_ren) { Tryd.laysPu14 with } ⟨#[80, 97, 114, 115, 101, 85, 105, 110, 116]⟩ s 10 B (.iface t q) _ hmax hs (.inr ⟨t, q, rfl⟩)).mono ?_
    rintro e W2 ⟨N, rfl, h1, h2, h3⟩
    go_wp2
    go_ret2
    exact ⟨_, rfl, hb1.out.trans (h3.mono hb1.out.size)⟩
end Go.Proofs.YtfjjikabinelgaaDoor
namespace Go.Proofs.YtfjjikabinelgaaDoor
open Go.RowKit Go.Proofs.YtfjjikabinelgaaDoorW.PrintWords Go.Proofs.YtfjjikabinelgaaDoorW.PrintLast Go.Proofs.YtfjjikabinelgaaDoorW.PrintMore Sc PScriptLines
set_option linter.unusedVariables false
set_option linter.unusedSimpArgs false

/-- Bytes as a string. -/
def str (l : List UInt8) : ByteArray := ⟨l.toArray⟩
theorem str_list (l : List UInt8) : (str l).data.toList = l := rfl
theorem str_size (l : List UInt8) : (str l).size = l.length := rfl
theorem str_toList (l : List UInt8) : (str l).toList = l := by rw [ByteArray.toList_eq]; rfl
theorem str_eq (s : ByteArray) : str s.data.toList = s := rfl

/-- Block g is a line with the parts p.1, spoilt or not; the parts lie as they lay in w0. -/
def Ln (w0 w : World) (g : Nat) (p : St) : Prop :=
  ∃ A c, w.heap[g]? = some (.cells #[.slice A p.1.length c, .bool p.2] 62 (0, 0)) ∧ p.1.length ≤ c ∧ Kd.C Kd.string w0 A (p.1.map str).length (p.1.map str)

theorem C_str {w : World} {A : Option Addr} {l : List (List UInt8)} {s : List UInt8} (h : Kd.C Kd.string w A ((s :: l).map str).length ((s :: l).map str)) : ∃ ad, A = some ad ∧ w.cell? ad = some (.string (str s)) := by
  obtain ⟨ad, cs, e, _, hK, hc0⟩ := Kd.C_get h (str []) 0 (by omega) (by simp)
  obtain rfl : cs = [.string (str s)] := hK
  refine ⟨ad, e, ?_⟩
  have := hc0 0 _ rfl
  simpa [Addr.add] using this

theorem next_nil (w : World) (g : Nat) (A : Option Addr) (c : Nat) (b : Bool) (hb : w.heap[g]? = some (.cells #[.slice A 0 c, .bool b] 62 (0, 0))) :
    Calls Tryd.prog 23 #[.pointer (some ⟨g, 0, none⟩)] w fun e w' => e = .returned (.string ⟨#[]⟩) ∧ w' = w.setCell ⟨g, 1, none⟩ (.bool true) := by
  have hc : w.cell? ⟨g, 0, none⟩ = some (.slice A 0 c) := blk_cell hb 0
  have hc1 : w.cell? ⟨g, 1, none⟩ = some (.bool b) := blk_cell hb 1
  have hf : w.frozen? ⟨g, 1, none⟩ = false := blk_frozen hb 1
  go_enter Tryd.func23, Tryd.ntmps23
  go_wp2
  go_ret
  exact ⟨rfl, rfl⟩

theorem next_cons (w : World) (g : Nat) (ad : Addr) (n c : Nat) (b : Bool) (s : ByteArray) (hb : w.heap[g]? = some (.cells #[.slice (some ad) (n + 1) c, .bool b] 62 (0, 0))) (hv : w.cell? ad = some (.string s)) :
    Calls Tryd.prog 23 #[.pointer (some ⟨g, 0, none⟩)] w fun e w' => e = .returned (.string s) ∧ w' = w.setCell ⟨g, 0, none⟩ (.slice (if c = 1 then some ad else some (ad.add 1)) n (c - 1)) := by
  have hc : w.cell? ⟨g, 0, none⟩ = some (.slice (some ad) (n + 1) c) := blk_cell hb 0
  have hf : w.frozen? ⟨g, 0, none⟩ = false := blk_frozen hb 0
  have hl : (((n + 1 : Nat) : Int) == 0) = false := by simp; omega
  go_enter Tryd.func23, Tryd.ntmps23
  go_wp2
  all_goals (go_ret; exact ⟨rfl, rfl⟩)

theorem only_setN {w : World} {g : Nat} (j : Nat) (u : Value) : w.grownBy (w.setCell ⟨g, j, none⟩ u) (some g) :=
  ⟨rfl, rfl, rfl, by simp [World.setCell], fun i hi hne => Below.heap_setCell w ⟨g, j, none⟩ u i (fun e => hne (by rw [e]))⟩

theorem next_calls {w0 w : World} {g : Nat} {p : St} (h : Ln w0 w g p) (hB : Below w0.heap.size w0 w) :
    Calls Tryd.prog 23 #[.pointer (some ⟨g, 0, none⟩)] w fun e w' => e = .returned (.string (str (nextP p).1)) ∧ Ln w0 w' g (nextP p).2 ∧ w.grownBy w' (some g) := by
  obtain ⟨l, b⟩ := p
  obtain ⟨A, c, hb, hc, hr⟩ := h
  cases l with
  | nil =>
    refine (next_nil w g A c b hb).mono ?_
    rintro e w' ⟨rfl, rfl⟩
    exact ⟨rfl, ⟨A, c, blk_set hb 1 _, Nat.zero_le _, hr⟩, only_setN _ _⟩
  | cons s r =>
    obtain ⟨ad, rfl, hv⟩ := C_str hr
    refine (next_cons w g ad r.length c b (str s) hb (pw_cell_below hB hv)).mono ?_
    rintro e w' ⟨rfl, rfl⟩
    refine ⟨rfl, ⟨_, c - 1, blk_set hb 0 _, by simp at hc; simp [nextP]; omega, ?_⟩, only_setN _ _⟩
    have hd := Kd.C_drop (k := Kd.string) (c := c) (m := 1) (xs := (s :: r).map str) hr (by simp) (by simpa using hc)
    exact hd

theorem below_only {w0 w w1 : World} {g : Nat} (hB : Below w0.heap.size w0 w) (hg : w0.heap.size ≤ g) (h : w.grownBy w1 (some g)) : Below w0.heap.size w0 w1 := hB.grown h hB.size (by rintro k ⟨⟩; exact hg)
theorem grown_trans' {w w1 w2 : World} {g : Nat} (h : w.grownBy w1 (some g)) (k : w1.grownBy w2 (some g)) : w.grownBy w2 (some g) :=
  ⟨k.os.trans h.os, k.tape.trans h.tape, k.output.trans h.output, Nat.le_trans h.size k.size, fun i hi hne => (k.block i (Nat.lt_of_lt_of_le hi h.size) hne).trans (h.block i hi hne)⟩
theorem grown_below' {w w1 w2 : World} {g : Nat} (h : w.grownBy w1 (some g)) (k : Below w1.heap.size w1 w2) : w.grownBy w2 (some g) :=
  ⟨k.os.trans h.os, k.tape.trans h.tape, k.output.trans h.output, Nat.le_trans h.size k.size, fun i hi hne => (k.block i (Nat.lt_of_lt_of_le hi h.size)).trans (h.block i hi hne)⟩

/-- Is the number of the size B told by the walks? -/
structure Size (B M : Nat) : Prop where
  inner : Inner B M
  pow : 2 ^ B - 1 = M
theorem size1 : Size 1 1 := ⟨inner1, by decide⟩
theorem size32 : Size 32 4294967295 := ⟨inner32, by decide⟩
theorem size60 : Size 60 1152921504606846975 := ⟨inner60, by decide⟩

theorem numV_lt {B M : Nat} (S : Size B M) (hM : M < 18446744073709551616) (s : List UInt8) : numV B s < 18446744073709551616 := by
  unfold numV
  cases hp : Lib.parseUintB B s with
  | ok u => have := Lib.parseUintB_le hp; rw [S.pow] at this; simp only; omega
  | range => simp only; rw [S.pow]; exact hM
  | _ => simp

theorem numBad_ne {B : Nat} {s : List UInt8} (h : ∀ u, Lib.parseUintB B s ≠ .ok u) : numBad B s = true := by
  unfold numBad
  cases hp : Lib.parseUintB B s with
  | ok u => exact absurd hp (h u)
  | _ => rfl

/-- What next tells, as a premise. -/
def Nx (w0 w : World) (g : Nat) (s : List UInt8) (q : St) : Prop :=
  Calls Tryd.prog 23 #[.pointer (some ⟨g, 0, none⟩)] w fun e w' => e = .returned (.string (str s)) ∧ Ln w0 w' g q ∧ w.grownBy w' (some g)

theorem ln_set {w0 w : World} {g : Nat} {ql : List (List UInt8)} {qb : Bool} (b : Bool) {A : Option Addr} {c : Nat} (hb : w.heap[g]? = some (.cells #[.slice A ql.length c, .bool qb] 62 (0, 0))) (hc : ql.length ≤ c) (hr : Kd.C Kd.string w0 A (ql.map str).length (ql.map str)) :
    Ln w0 (w.setCell ⟨g, 1, none⟩ (.bool b)) g (ql, b) := ⟨A, c, blk_set hb 1 _, hc, hr⟩

set_option maxHeartbeats 1000000 in
theorem number_spoilt {B M : Nat} (S : Size B M) {w0 w : World} {g : Nat} {s : List UInt8} {ql : List (List UInt8)} {u : Nat} (hn : Nx w0 w g s (ql, true)) (hB : Below w0.heap.size w0 w) (hg : w0.heap.size ≤ g) (he : Env w0) (hsz : s.length ≤ 281474976710656)
    (hu : Lib.parseUintB B s = .ok u) :
    Calls Tryd.prog 25 #[.pointer (some ⟨g, 0, none⟩), .int .i64 B] w fun e w' => e = .returned (.int .u64 u) ∧ Ln w0 w' g (ql, true) ∧ w.grownBy w' (some g) := by
  have HN := Aside0.mk hn
  have Hu := Aside0.mk hu
  clear hn hu
  go_enter Tryd.func25, Tryd.ntmps25
  go_wp2_with fail
  refine HN.out.mono ?_
  rintro e w1 ⟨rfl, ⟨A, c, hb, hc, hr⟩, hg1⟩
  have Hb := Aside0.mk hb
  have Hg1 := Aside0.mk hg1
  clear hb hg1
  go_wp2_with fail
  refine (parse_ok S.inner (str s) hsz _ u Hu.out).mono ?_
  rintro e w2 ⟨rfl, hb2⟩
  have hbk2 : w2.heap[g]? = some (.cells #[.slice A ql.length c, .bool true] 62 (0, 0)) := (hb2.block g (blk_lt Hb.out)).trans Hb.out
  have hc2 : w2.cell? ⟨g, 1, none⟩ = some (.bool true) := blk_cell hbk2 1
  have hf2 : w2.frozen? ⟨g, 1, none⟩ = false := blk_frozen hbk2 1
  have Hb2 := Aside0.mk hb2
  have Hbk2 := Aside0.mk hbk2
  clear hb2 hbk2
  go_wp2_with fail
  go_ret
  exact ⟨rfl, ln_set true Hbk2.out hc hr, grown_trans' (grown_below' Hg1.out Hb2.out) (only_setN _ _)⟩

set_option maxHeartbeats 1000000 in
theorem number_fine {B M : Nat} (S : Size B M) (hM : M < 18446744073709551616) {w0 w : World} {g : Nat} {s : List UInt8} {ql : List (List UInt8)} {u : Nat} (hn : Nx w0 w g s (ql, false)) (hB : Below w0.heap.size w0 w) (hg : w0.heap.size ≤ g) (he : Env w0) (hsz : s.length ≤ 281474976710656)
    (hu : Lib.parseUintB B s = .ok u) :
    Calls Tryd.prog 25 #[.pointer (some ⟨g, 0, none⟩), .int .i64 B] w fun e w' => e = .returned (.int .u64 u) ∧ Ln w0 w' g (ql, !decide (Lib.decDigits u = s)) ∧ w.grownBy w' (some g) := by
  have hu64 : u < 18446744073709551616 := by have := Lib.parseUintB_le hu; rw [S.pow] at this; omega
  have HN := Aside0.mk hn
  have Hu := Aside0.mk hu
  have HBB := Aside0.mk hB
  clear hn hu hB
  go_enter Tryd.func25, Tryd.ntmps25
  go_wp2_with fail
  refine HN.out.mono ?_
  rintro e w1 ⟨rfl, ⟨A, c, hb, hc, hr⟩, hg1⟩
  have hB1 := Aside0.mk (below_only HBB.out hg hg1)
  have hE1 := Aside0.mk (he.below hB1.out)
  have Hb := Aside0.mk hb
  have Hg1 := Aside0.mk hg1
  clear hb hg1
  go_wp2_with fail
  refine (parse_ok S.inner (str s) hsz _ u Hu.out).mono ?_
  rintro e w2 ⟨rfl, hb2⟩
  have hbk2 : w2.heap[g]? = some (.cells #[.slice A ql.length c, .bool false] 62 (0, 0)) := (hb2.block g (blk_lt Hb.out)).trans Hb.out
  have hc2 : w2.cell? ⟨g, 1, none⟩ = some (.bool false) := blk_cell hbk2 1
  have Hb2 := Aside0.mk hb2
  have Hbk2 := Aside0.mk hbk2
  have HT := Aside0.mk (hE1.out.below hb2).pow10
  clear hb2 hbk2
  go_wp2_with fail
  refine (format_calls u hu64 _ HT.out).mono ?_
  rintro e w3 ⟨rfl, hb3⟩
  have hbk3 : w3.heap[g]? = some (.cells #[.slice A ql.length c, .bool false] 62 (0, 0)) := (hb3.block g (blk_lt Hbk2.out)).trans Hbk2.out
  have hc3 : w3.cell? ⟨g, 1, none⟩ = some (.bool false) := blk_cell hbk3 1
  have hf3 : w3.frozen? ⟨g, 1, none⟩ = false := blk_frozen hbk3 1
  have Hb3 := Aside0.mk hb3
  have Hbk3 := Aside0.mk hbk3
  clear hb3 hbk3 hc2
  go_wp2_with fail
  go_ret
  rw [str_toList, show (!Lib.decDigits u == s) = !decide (Lib.decDigits u = s) from by rw [show (Lib.decDigits u == s) = decide (Lib.decDigits u = s) from by rw [Bool.eq_iff_iff]; simp]]
  exact ⟨rfl, ln_set _ Hbk3.out hc hr, grown_trans' (grown_below' (grown_below' Hg1.out Hb2.out) Hb3.out) (only_setN _ _)⟩

set_option maxHeartbeats 1000000 in
theorem number_bad {B M : Nat} (S : Size B M) {w0 w : World} {g : Nat} {s : List UInt8} {ql : List (List UInt8)} {qb : Bool} (hn : Nx w0 w g s (ql, qb)) (hB : Below w0.heap.size w0 w) (hg : w0.heap.size ≤ g) (he : Env w0) (hsz : s.length ≤ 281474976710656)
    (hu : ∀ u, Lib.parseUintB B s ≠ .ok u) :
    Calls Tryd.prog 25 #[.pointer (some ⟨g, 0, none⟩), .int .i64 B] w fun e w' => e = .returned (.int .u64 (numV B s)) ∧ Ln w0 w' g (ql, true) ∧ w.grownBy w' (some g) := by
  have HN := Aside0.mk hn
  have Hu := Aside0.mk hu
  have HBB := Aside0.mk hB
  generalize hv : numV B s = v
  have Hv := Aside0.mk hv
  clear hn hu hB hv
  cases qb
  all_goals
    go_enter Tryd.func25, Tryd.ntmps25
    go_wp2_with fail
    refine HN.out.mono ?_
    rintro e w1 ⟨rfl, ⟨A, c, hb, hc, hr⟩, hg1⟩
    have hB1 := Aside0.mk (below_only HBB.out hg hg1)
    have hE1 := Aside0.mk (he.below hB1.out)
    have Hb := Aside0.mk hb
    have Hg1 := Aside0.mk hg1
    clear hb hg1
    go_wp2_with fail
    have hp := parse_bad S.inner S.pow (str s) hsz w1 hE1.out Hu.out
    rw [str_list, Hv.out] at hp
    refine hp.mono ?_
    rintro e w2 ⟨pp, rfl, hb2⟩
    clear hp
    have hbk2 := (hb2.block g (blk_lt Hb.out)).trans Hb.out
    have hc2 := blk_cell hbk2 1
    have hf2 : w2.frozen? ⟨g, 1, none⟩ = false := blk_frozen hbk2 1
    simp only [List.getElem?_toArray, List.getElem?_cons_succ, List.getElem?_cons_zero] at hc2
    have Hb2 := Aside0.mk hb2
    have Hbk2 := Aside0.mk hbk2
    clear hb2 hbk2
    go_wp2_with fail
    go_ret
    exact ⟨rfl, ln_set true Hbk2.out hc hr, grown_trans' (grown_below' Hg1.out Hb2.out) (only_setN _ _)⟩

theorem number_calls {B M : Nat} (S : Size B M) (hM : M < 18446744073709551616) {w0 w : World} {g : Nat} {p : St} (h : Ln w0 w g p) (hB : Below w0.heap.size w0 w) (hg : w0.heap.size ≤ g) (he : Env w0) (hsz : (nextP p).1.length ≤ 281474976710656) :
    Calls Tryd.prog 25 #[.pointer (some ⟨g, 0, none⟩), .int .i64 B] w fun e w' => e = .returned (.int .u64 (numberP B p).1) ∧ Ln w0 w' g (numberP B p).2 ∧ w.grownBy w' (some g) := by
  have hn : Nx w0 w g (nextP p).1 (nextP p).2 := next_calls h hB
  have eP : numberP B p = (numV B (nextP p).1, ((nextP p).2.1, (nextP p).2.2 || numBad B (nextP p).1)) := rfl
  rw [eP]
  generalize (nextP p).1 = s at *
  generalize (nextP p).2 = q at *
  obtain ⟨ql, qb⟩ := q
  by_cases hok : ∃ u, Lib.parseUintB B s = .ok u
  · obtain ⟨u, hu⟩ := hok
    have hV : numV B s = u := by unfold numV; rw [hu]
    have hBd : numBad B s = !decide (Lib.decDigits u = s) := by unfold numBad; rw [hu]
    simp only [hV, hBd]
    cases qb
    · exact number_fine S hM hn hB hg he hsz hu
    · exact number_spoilt S hn hB hg he hsz hu
  · have hbad : ∀ u, Lib.parseUintB B s ≠ .ok u := fun u hu => hok ⟨u, hu⟩
    simp only [numBad_ne hbad, Bool.or_true]
    exact number_bad S hn hB hg he hsz hbad
end Go.Proofs.YtfjjikabinelgaaDoor
