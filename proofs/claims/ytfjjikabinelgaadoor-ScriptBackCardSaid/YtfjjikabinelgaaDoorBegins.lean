/- Walk of ScriptBegins. -/
import Derived.Test.YtfjjikabinelgaaDoorAwake
import Derived.Test.YtfjjikabinelgaaDoorPScriptLinesx4
namespace Go.Proofs.YtfjjikabinelgaaDoor
open Go.RowKit Go.Maps Go.Proofs Go.Proofs.YtfjjikabinelgaaDoorW.PrintWords Go.Proofs.YtfjjikabinelgaaDoorW.PrintLast Go.Proofs.YtfjjikabinelgaaDoorW.PrintMore Sc PScriptLines
set_option linter.unusedVariables false
set_option linter.unusedSimpArgs false

/-- A step's cells at ⟨b, o⟩. -/
structure StAt (w : World) (b o : Nat) (x : S33) (A : Option Addr) (c : Nat) : Prop where
  c0 : w.cell? ⟨b, o, none⟩ = some (.int .u8 x.f0)
  c1 : w.cell? ⟨b, o + 1, none⟩ = some (.int .u8 x.f1)
  c2 : w.cell? ⟨b, o + 2, none⟩ = some (.int .i64 x.f2)
  c3 : w.cell? ⟨b, o + 3, none⟩ = some (.int .u32 x.f3)
  c4 : w.cell? ⟨b, o + 4, none⟩ = some (.bool x.f4)
  c5 : w.cell? ⟨b, o + 5, none⟩ = some (.string x.f5)
  c6 : w.cell? ⟨b, o + 6, none⟩ = some (.slice A x.f6.length c)
  le : x.f6.length ≤ c
  row : (Kd.int .u8).C w A x.f6.length x.f6

theorem StAt.below {w w1 : World} {b o : Nat} {x : S33} {A : Option Addr} {c : Nat} (h : StAt w b o x A c) (hb : Below w.heap.size w w1) : StAt w1 b o x A c :=
  ⟨pw_cell_below hb h.c0, pw_cell_below hb h.c1, pw_cell_below hb h.c2, pw_cell_below hb h.c3, pw_cell_below hb h.c4, pw_cell_below hb h.c5, pw_cell_below hb h.c6, h.le, Kd.C_below h.row hb⟩

theorem st_cells {w : World} {base : Nat} {ok : Nat → Prop} {A : Option Addr} {n c : Nat} {xs : List Stp} (h : Kd.R k33 33 w base ok (.slice A n c) (xs.map s33)) (hx : 0 < xs.length) :
    ∃ b, A = some ⟨b, 0, none⟩ ∧ ∀ (k : Nat) (hk : k < xs.length), ∃ A6 c6, StAt w b (k * 7) (s33 xs[k]) A6 c6 := by
  obtain ⟨g, cap, e, _⟩ := Kd.R_form h (by rw [List.length_map]; exact hx)
  injection e with e1 e2 e3
  subst e1
  refine ⟨g, rfl, fun k hk => ?_⟩
  have hC := (Kd.R_reads' h).2.2
  obtain ⟨ad, A6, c6, ea, h0, h1, h2, h3, h4, h5, h6, h7, h8⟩ := at_T33 hC (k : Int) (by omega) (by rw [List.length_map]; omega)
  injection ea with ea
  subst ea
  have ek : (k : Int).toNat = k := by omega
  have er : rd_T33 (xs.map s33) (k : Int) = s33 xs[k] := by
    unfold rd_T33
    rw [ek, List.getD_eq_getElem?_getD, List.getElem?_map, List.getElem?_eq_getElem hk]
    rfl
  rw [er, ek, add_plain] at h0
  rw [er, ek, add_plain] at h1 h2 h3 h4 h5 h6
  rw [er] at h7 h8
  simp only [Nat.zero_add] at h0 h1 h2 h3 h4 h5 h6
  exact ⟨A6, c6, h0, h1, h2, h3, h4, h5, h6, h7, h8⟩

theorem same_refl (x : S33) {A0 A1 : Option Addr} {c0 c1 : Nat} (w : World) (h0 : (Kd.int .u8).C w A0 x.f6.length x.f6) (l0 : x.f6.length ≤ c0) (h1 : (Kd.int .u8).C w A1 x.f6.length x.f6) (l1 : x.f6.length ≤ c1) :
    Calls Tryd.prog 16 #[.agg #[.int .u8 x.f0, .int .u8 x.f1, .int .i64 x.f2, .int .u32 x.f3, .bool x.f4, .string x.f5, .slice A0 x.f6.length c0], .agg #[.int .u8 x.f0, .int .u8 x.f1, .int .i64 x.f2, .int .u32 x.f3, .bool x.f4, .string x.f5, .slice A1 x.f6.length c1]] w fun e w' => e = .returned (.bool true) ∧ Below w.heap.size w w' := by
  refine (sumpterref34_Same.calls x.f0 x.f1 x.f2 x.f3 x.f4 x.f5 A0 c0 x.f6 x.f0 x.f1 x.f2 x.f3 x.f4 x.f5 A1 c1 x.f6 true w h0 l0 h1 l1 (by simp [sumpterref34_Same.f])).mono ?_
  rintro e w' ⟨rfl, hb⟩
  exact ⟨rfl, hb⟩

theorem By.take {w : World} {A : Option Addr} {c n : Nat} {l : List UInt8} (h : By w (.slice A n c) l) (m : Nat) (hm : m ≤ l.length) : By w (.slice A m c) (l.take m) := by
  obtain ⟨A', c', e, hc, hr⟩ := h
  injection e with e1 e2 e3
  subst e1 e2 e3
  refine ⟨A, c, by rw [List.length_take, Nat.min_eq_left hm], by rw [List.length_take]; omega, ?_⟩
  have hr1 := hr
  rw [← ints_len] at hr1
  have h := Kd.C_take (m := m) hr1 (by rw [ints_len]; exact hm)
  rw [← ints_take, ints_len] at h
  exact h

set_option maxHeartbeats 4000000 in
set_option maxRecDepth 100000 in
theorem begins_calls {v : Value} {l : List UInt8} (c : Nat) (hc : c < 65536) (w : World) (hv : By w v l) (he : Env w) :
    Calls Tryd.prog 7 #[v, .int .u16 c] w fun e w' => e = .returned (.bool true) ∧ Below w.heap.size w w' := by
  have HV := Aside0.mk hv
  have HE := Aside0.mk he
  obtain ⟨A, vc, rfl, hvc, _⟩ := hv
  clear he
  by_cases h3 : (3000 : Int) < l.length
  · go_enter Tryd.func7, Tryd.ntmps7
    go_wp2_with fail
    refine (awake_calls w HE.out).mono ?_
    rintro e w1 ⟨rfl, hb⟩
    have HBB := Aside0.mk hb
    clear hb
    go_wp2_with fail
    go_ret
    exact ⟨rfl, HBB.out⟩
  obtain ⟨m, hm⟩ : ∃ m, m = c % (l.length + 1) := ⟨_, rfl⟩
  have em : (c : Int) % ((l.length : Int) + 1) = (m : Int) := by rw [hm]; rfl
  have hml : m ≤ l.length := by have := Nat.mod_lt c (show 0 < l.length + 1 by omega); omega
  have hbeg := decode_begins 4096 (l.take m) (l.drop m)
  rw [List.take_append_drop] at hbeg
  obtain ⟨hle, hpre⟩ := hbeg
  have hlen := Sc.decode_le 4096 l
  have HPRE := Aside0.mk hpre
  clear hm hpre
  go_enter Tryd.func7, Tryd.ntmps7
  go_wp2_with fail
  refine (decode_calls w HV.out).mono ?_
  rintro e w1 ⟨u1, rfl, hb1, hR1⟩
  obtain ⟨A1, c1, rfl⟩ := Kd.R_slice hR1
  have HB1 := Aside0.mk hb1
  have HR1 := Aside0.mk hR1
  clear hb1 hR1
  rw [List.length_map] at HR1
  go_wp2_with fail
  refine (decode_calls w1 ((HV.out.take m hml).below HB1.out)).mono ?_
  rintro e w2 ⟨u2, rfl, hb2, hR2⟩
  obtain ⟨A2, c2, rfl⟩ := Kd.R_slice hR2
  have HB2 := Aside0.mk hb2
  have HR2 := Aside0.mk hR2
  have HR1' := Aside0.mk (Kd.R_below HR1.out hb2)
  clear hb2 hR2 HR1
  rw [List.length_map] at HR2
  generalize hd1 : Sc.decode 4096 l = d1 at *
  generalize hd2 : Sc.decode 4096 (l.take m) = d2 at *
  clear hd1 hd2
  have hle' : decide (d1.length < d2.length) = false := decide_eq_false (by omega)
  have hlen' : decide (l.length < d1.length) = false := decide_eq_false (by omega)
  have hd4 : d1.length ≤ 3000 := by omega
  have HLE := Aside0.mk hle
  clear hle hlen em
  go_wp2_with fail
  go_loopw [7] (fun i wr => ∃ k : Nat, i = .int .i64 (k : Nat) ∧ k ≤ d2.length ∧ Aside0 (Below w2.heap.size w2 wr)) (fun i _ => d2.length - (intOf i).toNat)
  case atStart => exact ⟨0, rfl, Nat.zero_le _, Aside0.mk (Below.refl _ _)⟩
  case round =>
    obtain ⟨k, rfl, hk, HW⟩ := hrel
    have HBW : Aside0 (Below w.heap.size w wr) := Aside0.mk ((HB1.out.trans (HB2.out.mono HB1.out.size)).trans (HW.out.mono (Nat.le_trans HB1.out.size HB2.out.size)))
    by_cases hlt : (k : Int) + 1 < d2.length
    · have hk1 : k < d1.length := by have := HLE.out; omega
      have hk2 : k < d2.length := by omega
      obtain ⟨b1, rfl, hs1⟩ := st_cells HR1'.out (by omega)
      obtain ⟨b2, rfl, hs2⟩ := st_cells HR2.out (by omega)
      obtain ⟨A16, c16, hx1⟩ := hs1 k hk1
      obtain ⟨A26, c26, hx2⟩ := hs2 k hk2
      have exy : d2[k] = d1[k] := by
        have h := HPRE.out k (by omega)
        rw [List.getElem?_eq_getElem hk2, List.getElem?_eq_getElem hk1] at h
        exact Option.some.inj h
      rw [exy] at hx2
      generalize d1[k] = x at *
      have HX1 : Aside0 (∀ W', Below wr.heap.size wr W' → StAt W' b1 (k * 7) (s33 x) A16 c16) := Aside0.mk (fun W' hb => (hx1.below HW.out).below hb)
      have HX2 : Aside0 (∀ W', Below wr.heap.size wr W' → StAt W' b2 (k * 7) (s33 x) A26 c26) := Aside0.mk (fun W' hb => (hx2.below HW.out).below hb)
      clear exy hs1 hs2 hx1 hx2
      have q1 := HX1.out wr (Below.refl _ _)
      have q2 := HX2.out wr (Below.refl _ _)
      obtain ⟨a0, a1, a2, a3, a4, a5, a6, _, _⟩ := q1
      obtain ⟨e0, e1, e2, e3, e4, e5, e6, _, _⟩ := q2
      have i1 : (k : Int) < d1.length := by omega
      have i2 : (k : Int) < d2.length := by omega
      go_upto_region 10 with fail
      go_region_held3 (fun w' => w'.cell? ⟨b2, k * 7, none⟩ = some (.int .u8 (s33 x).f0) ∧ w'.cell? ⟨b2, k * 7 + 1, none⟩ = some (.int .u8 (s33 x).f1) ∧ w'.cell? ⟨b2, k * 7 + 2, none⟩ = some (.int .i64 (s33 x).f2) ∧ w'.cell? ⟨b2, k * 7 + 3, none⟩ = some (.int .u32 (s33 x).f3) ∧ w'.cell? ⟨b2, k * 7 + 4, none⟩ = some (.bool (s33 x).f4) ∧ w'.cell? ⟨b2, k * 7 + 5, none⟩ = some (.string (s33 x).f5) ∧ w'.cell? ⟨b2, k * 7 + 6, none⟩ = some (.slice A26 (s33 x).f6.length c26) ∧ w'.cell? ⟨b1, k * 7, none⟩ = some (.int .u8 (s33 x).f0) ∧ w'.cell? ⟨b1, k * 7 + 1, none⟩ = some (.int .u8 (s33 x).f1) ∧ w'.cell? ⟨b1, k * 7 + 2, none⟩ = some (.int .i64 (s33 x).f2) ∧ w'.cell? ⟨b1, k * 7 + 3, none⟩ = some (.int .u32 (s33 x).f3) ∧ w'.cell? ⟨b1, k * 7 + 4, none⟩ = some (.bool (s33 x).f4) ∧ w'.cell? ⟨b1, k * 7 + 5, none⟩ = some (.string (s33 x).f5) ∧ w'.cell? ⟨b1, k * 7 + 6, none⟩ = some (.slice A16 (s33 x).f6.length c16)) (exact (have q1 := HX1.out _ (by repeat (first | exact Below.refl _ _ | exact HW7.out | apply pw_below_drewN | apply below_drew1)); have q2 := HX2.out _ (by repeat (first | exact Below.refl _ _ | exact HW7.out | apply pw_below_drewN | apply below_drew1)); ⟨q2.c0, q2.c1, q2.c2, q2.c3, q2.c4, q2.c5, q2.c6, q1.c0, q1.c1, q1.c2, q1.c3, q1.c4, q1.c5, q1.c6⟩)) (first | (go_at_call 16; refine (same_refl (s33 x) _ (HX2.out _ (by repeat (first | exact Below.refl _ _ | apply pw_below_drewN | apply below_drew1))).row (HX2.out _ (Below.refl _ _)).le (HX1.out _ (by repeat (first | exact Below.refl _ _ | apply pw_below_drewN | apply below_drew1))).row (HX1.out _ (Below.refl _ _)).le).mono ?_; rintro e w7 ⟨rfl, hb7⟩; have HW7 : Aside0 (Below wr.heap.size wr w7) := Aside0.mk (Below.trans (by repeat (first | exact Below.refl _ _ | apply pw_below_drewN | apply below_drew1)) hb7); clear hb7))
      all_goals
        clear a0 a1 a2 a3 a4 a5 a6 e0 e1 e2 e3 e4 e5 e6
        go_wp2_with fail
        go_roundw
        case rel => exact ⟨k + 1, by simp, by omega, Aside0.mk (HW.out.trans (HW7.out.mono HW.out.size))⟩
        case measure => simp [intOf]; omega
    · have hkk : k ≤ 3000 := by have := HLE.out; omega
      go_wp2_with fail
      refine (awake_calls wr (HE.out.below HBW.out)).mono ?_
      rintro e w3 ⟨rfl, hb3⟩
      have HB3 : Aside0 (Below w.heap.size w w3) := Aside0.mk (HBW.out.trans (hb3.mono HBW.out.size))
      clear hb3
      go_wp2_with fail
      go_ret
      exact ⟨rfl, HB3.out⟩
end Go.Proofs.YtfjjikabinelgaaDoor
