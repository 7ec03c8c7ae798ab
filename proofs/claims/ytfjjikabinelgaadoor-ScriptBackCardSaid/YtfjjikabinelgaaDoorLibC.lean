/- Library: strconv.ParseUint at base 10 and the sizes 1, 32 and 60: the number that the bytes spell and no error; or an error that is not nil. -/
import Derived.Test.YtfjjikabinelgaaDoorLibB
namespace Go.Proofs.YtfjjikabinelgaaDoor
open Go.Shelf Go.RowKit Go.Proofs.YtfjjikabinelgaaDoorW.PrintWords Sc
set_option linter.unusedVariables false
set_option linter.unusedSimpArgs false

def Inner (B M : Nat) : Prop := ∀ (t : ByteArray) (w : World), t.size ≤ 9223372036854775806 →
  Calls Tryd.prog 66 #[.string t, .int .i64 10, .int .i64 B] w fun e w' => e = .returned (Lib.uintTupleM 122 M (Lib.parseUintB B t.data.toList)) ∧ (w' = w ∨ w' = Lib.bytesWorld w 5 t)

theorem inner_of (B M : Nat) (eM : 2 ^ B - 1 = M) (h : ∀ (t : ByteArray) (w : World), t.size ≠ 0 → t.size ≤ 9223372036854775806 →
    Calls Tryd.prog 66 #[.string t, .int .i64 10, .int .i64 B] w fun e w' => e = .returned (Lib.uintTupleM 122 M (Lib.parseUintM M 0 t.data.toList)) ∧ w' = Lib.bytesWorld w 5 t) : Inner B M := by
  intro t w hmax
  by_cases h0 : t.size = 0
  · have ht : t = ⟨#[]⟩ := by
      apply ByteArray.ext
      exact Array.eq_empty_of_size_eq_zero h0
    subst ht
    exact (AnyPu.internal_strconv_ParseUint_empty { Tryd.laysPu14 with } 10 B w).mono fun e w' ⟨he, hw⟩ => ⟨he, Or.inl hw⟩
  · have hne : t.data.toList ≠ [] := fun h => h0 (by rw [Lib.size_eq, h]; rfl)
    refine (h t w h0 hmax).mono fun e w' ⟨he, hw⟩ => ⟨?_, Or.inr hw⟩
    rw [he, Lib.parseUintB, if_neg hne, eM]

theorem inner1 : Inner 1 1 := inner_of 1 1 (by decide) fun t w h0 hm => ParseUint_10_b1 (ρ := Tryd.laysPu14_ren) { Tryd.laysPu14 with } t h0 hm w
theorem inner60 : Inner 60 1152921504606846975 := inner_of 60 1152921504606846975 (by decide) fun t w h0 hm => ParseUint_10_b60 (ρ := Tryd.laysPu14_ren) { Tryd.laysPu14 with } t h0 hm w
theorem inner32 : Inner 32 4294967295 := inner_of 32 4294967295 (by decide) fun t w h0 hm => AnyPu.internal_strconv_ParseUint_10_b32 (ρ := Tryd.laysPu14_ren) { Tryd.laysPu14 with } t h0 hm w

theorem below_bytes {w W1 : World} {s : ByteArray} (h : W1 = w ∨ W1 = Lib.bytesWorld w 5 s) : Below w.heap.size w W1 := by
  rcases h with rfl | rfl
  · exact Below.refl _ _
  · exact Lib.bytesWorld_below _ _ _

theorem parse_ok {B M : Nat} (I : Inner B M) (s : ByteArray) (hmax : s.size ≤ 281474976710656) (w : World) (u : Nat) (h : Lib.parseUintB B s.data.toList = .ok u) :
    Calls Tryd.prog 48 #[.string s, .int .i64 10, .int .i64 B] w fun e w' => e = .returned (.tuple #[.int .u64 u, .nilIface]) ∧ Below w.heap.size w w' := by
  have hI := I s w (by omega)
  rw [h] at hI
  have hI : Calls Tryd.prog 66 #[.string s, .int .i64 10, .int .i64 B] w fun e w' => e = .returned (.tuple #[.int .u64 u, .nilIface]) ∧ (w' = w ∨ w' = Lib.bytesWorld w 5 s) := hI
  have HI := Aside0.mk hI
  clear hI h I
  go_enter Tryd.func48, Tryd.ntmps48
  go_wp2_with (go_at_call 66; refine HI.out.mono ?_; rintro e W1 ⟨rfl, hW⟩)
  go_ret2
  exact ⟨rfl, below_bytes hW⟩

theorem parse_bad {B M : Nat} (I : Inner B M) (eM : 2 ^ B - 1 = M) (s : ByteArray) (hmax : s.size ≤ 281474976710656) (w : World) (he : Env w) (h : ∀ u, Lib.parseUintB B s.data.toList ≠ .ok u) :
    Calls Tryd.prog 48 #[.string s, .int .i64 10, .int .i64 B] w fun e w' => ∃ p, e = .returned (.tuple #[.int .u64 (numV B s.data.toList), .iface 124 p]) ∧ Below w.heap.size w w' := by
  have hI := I s w (by omega)
  unfold numV
  cases hp : Lib.parseUintB B s.data.toList with
  | ok u => exact absurd hp (h u)
  | range =>
    rw [hp, ← eM] at hI
    have hI : Calls Tryd.prog 66 #[.string s, .int .i64 10, .int .i64 B] w fun e w' => e = .returned (.tuple #[.int .u64 ((2 ^ B - 1 : Nat) : Int), .iface 122 (.int .i64 1)]) ∧ (w' = w ∨ w' = Lib.bytesWorld w 5 s) := hI
    have HI := Aside0.mk hI
    clear hI hp h I eM
    generalize 2 ^ B - 1 = Mx at *
    go_enter Tryd.func48, Tryd.ntmps48
    go_wp2_with (go_at_call 66; refine HI.out.mono ?_; rintro e W1 ⟨rfl, hW⟩)
    go_wp2_with fail
    obtain ⟨t, q, hs⟩ := (he.below (below_bytes hW)).rang
    have hb1 := Aside0.mk (below_bytes hW)
    clear hW
    refine (AnyPu.strconv_toError_range (ρ := Tryd.laysPu14_ren) { Tryd.laysPu14 with } ⟨#[80, 97, 114, 115, 101, 85, 105, 110, 116]⟩ s 10 B (.iface t q) _ hmax hs (.inr ⟨t, q, rfl⟩)).mono ?_
    rintro e W2 ⟨N, rfl, h1, h2, h3⟩
    go_wp2
    go_ret2
    exact ⟨_, rfl, hb1.out.trans (h3.mono hb1.out.size)⟩
  | _ =>
    rw [hp] at hI
    have hI : Calls Tryd.prog 66 #[.string s, .int .i64 10, .int .i64 B] w fun e w' => e = .returned (.tuple #[.int .u64 0, .iface 122 (.int .i64 2)]) ∧ (w' = w ∨ w' = Lib.bytesWorld w 5 s) := hI
    have HI := Aside0.mk hI
    clear hI hp h I eM
    go_enter Tryd.func48, Tryd.ntmps48
    go_wp2_with (go_at_call 66; refine HI.out.mono ?_; rintro e W1 ⟨rfl, hW⟩)
    go_wp2_with fail
    obtain ⟨t, q, hs⟩ := (he.below (below_bytes hW)).synt
    have hb1 := Aside0.mk (below_bytes hW)
    clear hW
    refine (AnyPu.strconv_toError_syntax (ρ := Tryd.laysPu14_ren) { Tryd.laysPu14 with } ⟨#[80, 97, 114, 115, 101, 85, 105, 110, 116]⟩ s 10 B (.iface t q) _ hmax hs (.inr ⟨t, q, rfl⟩)).mono ?_
    rintro e W2 ⟨N, rfl, h1, h2, h3⟩
    go_wp2
    go_ret2
    exact ⟨_, rfl, hb1.out.trans (h3.mono hb1.out.size)⟩
end Go.Proofs.YtfjjikabinelgaaDoor
