/- ScriptTexts: the tied card holds, whatever the input. -/
import Derived.Test.YtfjjikabinelgaaDoorMRefP
import Derived.Test.YtfjjikabinelgaaDoorMText
import Derived.Deep.RegionHeld3
import Derived.Test.YtfjjikabinelgaaDoorMRow
import Derived.Test.YtfjjikabinelgaaDoorCards
import Derived.Test.YtfjjikabinelgaaDoorTie
import Derived.SevenTiedAt
namespace Go.Proofs.YtfjjikabinelgaaDoor
open Go.RowKit Go.Maps Go.Proofs Go.Proofs.YtfjjikabinelgaaDoorW.PrintWords Go.Proofs.YtfjjikabinelgaaDoorW.PrintLast Go.Proofs.YtfjjikabinelgaaDoorW.PrintMore Sc PScriptLines
set_option linter.unusedVariables false
set_option linter.unusedSimpArgs false

def codeP (o : Option Stp) : Int := if o.isSome then 0 else 60

/-- script's Parse: the step that a line is, or none. -/
theorem parse_any {l : List UInt8} {q : Stp} {cd : Int} (hl : l.length ≤ 1000000) (hq : (parseS l).getD Stp.nil = q) (hcd : codeP (parseS l) = cd) (w : World) (he : Env w) :
    Calls Tryd.prog 12 #[.string (str l)] w fun e w' => ∃ A c, e = .returned (.tuple #[.agg #[.int .u8 q.kind, .int .u8 q.side, .int .i64 q.n, .int .u32 q.draw, .bool q.done, .string (str q.path), .slice A q.data.length c], .int .i64 cd]) ∧ By w' (.slice A q.data.length c) q.data ∧ Below w.heap.size w w' := by
  skip
  refine (parse_calls l hl w he).mono ?_
  rintro e w2 ⟨cs, rfl, hM, hb2⟩
  rw [hq] at hM
  obtain ⟨A6, c6, rfl, l6, g6⟩ := k33_open (k33.K_of_M hM)
  have el : (s33 q).f6.length = q.data.length := ints_len q.data
  rw [el] at l6 g6
  refine ⟨A6, c6, ?_, ⟨A6, c6, rfl, l6, g6⟩, hb2⟩
  rw [el, ← hcd]
  rfl
/-- The document's Parse: the same. -/
theorem rparse_any {l : List UInt8} {q : Stp} {cd : Int} (hl : l.length ≤ 1000000) (hq : (parseS l).getD Stp.nil = q) (hcd : codeP (parseS l) = cd) (w : World) :
    Calls Tryd.prog 13 #[.string (str l)] w fun e w' => ∃ A c, e = .returned (.tuple #[.agg #[.int .u8 q.kind, .int .u8 q.side, .int .i64 q.n, .int .u32 q.draw, .bool q.done, .string (str q.path), .slice A q.data.length c], .int .i64 cd]) ∧ By w' (.slice A q.data.length c) q.data ∧ Below w.heap.size w w' := by
  rw [parse_same] at hq hcd
  refine (rparse_calls l hl w).mono ?_
  rintro e w2 ⟨cs, rfl, hM, hb2⟩
  rw [hq] at hM
  obtain ⟨A6, c6, rfl, l6, g6⟩ := k32_open (k32.K_of_M hM)
  have el : (s32 q).f6.length = q.data.length := ints_len q.data
  rw [el] at l6 g6
  refine ⟨A6, c6, ?_, ⟨A6, c6, rfl, l6, g6⟩, hb2⟩
  rw [el, ← hcd]
  rfl
theorem same_q (q : Stp) {A0 A1 : Option Addr} {c0 c1 : Nat} (w : World) (h0 : By w (.slice A0 q.data.length c0) q.data) (h1 : By w (.slice A1 q.data.length c1) q.data) :
    Calls Tryd.prog 16 #[.agg #[.int .u8 q.kind, .int .u8 q.side, .int .i64 q.n, .int .u32 q.draw, .bool q.done, .string (str q.path), .slice A0 q.data.length c0], .agg #[.int .u8 q.kind, .int .u8 q.side, .int .i64 q.n, .int .u32 q.draw, .bool q.done, .string (str q.path), .slice A1 q.data.length c1]] w fun e w' => e = .returned (.bool true) ∧ Below w.heap.size w w' := by
  obtain ⟨B0, d0, e0, l0, r0⟩ := h0
  injection e0 with e00 e01 e02
  subst e00 e02
  obtain ⟨B1, d1, e1, l1, r1⟩ := h1
  injection e1 with e10 e11 e12
  subst e10 e12
  have el : (s33 q).f6.length = q.data.length := ints_len q.data
  have h := sumpterref34_Same.calls (s33 q).f0 (s33 q).f1 (s33 q).f2 (s33 q).f3 (s33 q).f4 (s33 q).f5 A0 c0 (s33 q).f6 (s33 q).f0 (s33 q).f1 (s33 q).f2 (s33 q).f3 (s33 q).f4 (s33 q).f5 A1 c1 (s33 q).f6 true w (by rw [el]; exact r0) (by rw [el]; exact l0) (by rw [el]; exact r1) (by rw [el]; exact l1) (by simp [sumpterref34_Same.f])
  rw [el] at h
  exact h

set_option maxHeartbeats 4000000 in
set_option maxRecDepth 100000 in
theorem texts_calls {k s d : Nat} {n : Int} {e : Bool} {p dat l : List UInt8} {dv : Value} (hk : k < 256) (hs : s < 256) (hn0 : -9223372036854775808 ≤ n) (hn1 : n ≤ 9223372036854775807) (hd : d < 4294967296)
    (w : World) (hv : By w dv dat) (he : Env w) :
    Calls Tryd.prog 4 #[.agg #[.int .u8 k, .int .u8 s, .int .i64 n, .int .u32 d, .bool e, .string (str p), dv], .string (str l)] w fun r w' => r = .returned (.bool true) ∧ Below w.heap.size w w' := by
  have HV := Aside0.mk hv
  have HE := Aside0.mk he
  obtain ⟨dA, dc, rfl, _, _⟩ := hv
  clear he
  have HBX : Aside0 (∀ o : Obj, Below w.heap.size w (w.alloc o)) := Aside0.mk (fun o => (Below.refl _ _).alloc (Nat.le_refl _) o)
  have ep : (str p).size = p.length := rfl
  have el : (str l).size = l.length := rfl
  by_cases hbig : (300 : Int) < dat.length ∨ (300 : Int) < p.length ∨ (300 : Int) < l.length
  · have hor : (300 : Int) < dat.length ∨ (¬ (300 : Int) < dat.length ∧ (300 : Int) < p.length) ∨ (¬ (300 : Int) < dat.length ∧ ¬ (300 : Int) < p.length ∧ (300 : Int) < l.length) := by omega
    clear hbig
    rcases hor with hA | ⟨hA, hB⟩ | ⟨hA, hB, hC⟩
    all_goals
      go_enter Tryd.func4, Tryd.ntmps4
      go_wp2_with fail
      refine (awake_calls _ (HE.out.below (HBX.out _))).mono ?_
      rintro r w1 ⟨rfl, hb⟩
      have HB1 : Aside0 (Below w.heap.size w w1) := Aside0.mk ((HBX.out _).trans (hb.mono (HBX.out _).size))
      clear hb
      go_wp2_with fail
      go_ret
      exact ⟨rfl, HB1.out⟩
  have hA : ¬ (300 : Int) < dat.length := by omega
  have hB : ¬ (300 : Int) < p.length := by omega
  have hC : ¬ (300 : Int) < l.length := by omega
  clear hbig
  go_enter Tryd.func4, Tryd.ntmps4
  go_wp2_with fail
  obtain ⟨q, hq⟩ : ∃ q, (parseS l).getD Stp.nil = q := ⟨_, rfl⟩
  obtain ⟨cd, hcd⟩ : ∃ cd, codeP (parseS l) = cd := ⟨_, rfl⟩
  have HQ := Aside0.mk (And.intro hq hcd)
  clear hq hcd
  refine (parse_any (by omega) HQ.out.1 HQ.out.2 _ (HE.out.below (HBX.out _))).mono ?_
  rintro r w1 ⟨yA, yc, rfl, hy, hb1⟩
  have HY := Aside0.mk hy
  have HB1 : Aside0 (Below w.heap.size w w1) := Aside0.mk ((HBX.out _).trans (hb1.mono (HBX.out _).size))
  have HX1 : Aside0 (w1.heap[w.heap.size]? = some (.cells #[.int .u8 k, .int .u8 s, .int .i64 n, .int .u32 d, .bool e, .string (str p), .slice dA dat.length dc] 32 (0, 0))) := Aside0.mk ((hb1.block _ (by simp)).trans (heap_alloc_new w _))
  clear hy hb1
  go_wp2_with fail
  refine (rparse_any (by omega) HQ.out.1 HQ.out.2 _).mono ?_
  rintro r w3 ⟨zA, zc, rfl, hz, hb3⟩
  have HZ := Aside0.mk hz
  have hb2 : Below w1.heap.size w1 (w1.alloc (.cells #[.int .u8 q.kind, .int .u8 q.side, .int .i64 q.n, .int .u32 q.draw, .bool q.done, .string (str q.path), .slice yA q.data.length yc] 33)) := (Below.refl _ _).alloc (Nat.le_refl _) _
  have HB23 : Aside0 (Below w1.heap.size w1 w3) := Aside0.mk (hb2.trans (hb3.mono hb2.size))
  have HY3 : Aside0 (w3.heap[w1.heap.size]? = some (.cells #[.int .u8 q.kind, .int .u8 q.side, .int .i64 q.n, .int .u32 q.draw, .bool q.done, .string (str q.path), .slice yA q.data.length yc] 33 (0, 0))) := Aside0.mk ((hb3.block _ (by simp)).trans (heap_alloc_new w1 _))
  clear hz hb3 hb2
  go_upto_region 5 with fail
  have hb4 : Below w3.heap.size w3 (w3.alloc (.cells #[.int .u8 q.kind, .int .u8 q.side, .int .i64 q.n, .int .u32 q.draw, .bool q.done, .string (str q.path), .slice zA q.data.length zc] 32)) := (Below.refl _ _).alloc (Nat.le_refl _) _
  have HZ4 : Aside0 ((w3.alloc (.cells #[.int .u8 q.kind, .int .u8 q.side, .int .i64 q.n, .int .u32 q.draw, .bool q.done, .string (str q.path), .slice zA q.data.length zc] 32)).heap[w3.heap.size]? = some (.cells #[.int .u8 q.kind, .int .u8 q.side, .int .i64 q.n, .int .u32 q.draw, .bool q.done, .string (str q.path), .slice zA q.data.length zc] 32 (0, 0))) := Aside0.mk (heap_alloc_new w3 _)
  have HB34 := Aside0.mk hb4
  clear hb4
  generalize w3.alloc (.cells #[.int .u8 q.kind, .int .u8 q.side, .int .i64 q.n, .int .u32 q.draw, .bool q.done, .string (str q.path), .slice zA q.data.length zc] 32) = w4 at *
  have HY4 : Aside0 (w4.heap[w1.heap.size]? = some (.cells #[.int .u8 q.kind, .int .u8 q.side, .int .i64 q.n, .int .u32 q.draw, .bool q.done, .string (str q.path), .slice yA q.data.length yc] 33 (0, 0))) := Aside0.mk ((HB34.out.block _ (blk_lt HY3.out)).trans HY3.out)
  have HB14 : Aside0 (Below w1.heap.size w1 w4) := Aside0.mk (HB23.out.trans (HB34.out.mono HB23.out.size))
  have HX4 : Aside0 (w4.heap[w.heap.size]? = some (.cells #[.int .u8 k, .int .u8 s, .int .i64 n, .int .u32 d, .bool e, .string (str p), .slice dA dat.length dc] 32 (0, 0))) := Aside0.mk ((HB14.out.block _ (blk_lt HX1.out)).trans HX1.out)
  have HB4 : Aside0 (Below w.heap.size w w4) := Aside0.mk (HB1.out.trans (HB14.out.mono HB1.out.size))
  have HA4 : Aside0 (Below w4.heap.size w4 w4) := Aside0.mk (Below.refl _ _)
  have HF : Aside0 (∀ W', Below w4.heap.size w4 W' → By W' (.slice dA dat.length dc) dat ∧ Env W' ∧ By W' (.slice yA q.data.length yc) q.data ∧ By W' (.slice zA q.data.length zc) q.data) := Aside0.mk (fun W' hb => ⟨HV.out.below (HB4.out.trans (hb.mono HB4.out.size)), HE.out.below (HB4.out.trans (hb.mono HB4.out.size)), HY.out.below (HB14.out.trans (hb.mono HB14.out.size)), HZ.out.below (HB34.out.trans (hb.mono HB34.out.size))⟩)
  have HALL : Aside0 (∀ w', Below w4.heap.size w4 w' → w'.cell? ⟨w.heap.size, 0, none⟩ = some (.int .u8 k) ∧ w'.cell? ⟨w.heap.size, 1, none⟩ = some (.int .u8 s) ∧ w'.cell? ⟨w.heap.size, 2, none⟩ = some (.int .i64 n) ∧ w'.cell? ⟨w.heap.size, 3, none⟩ = some (.int .u32 d) ∧ w'.cell? ⟨w.heap.size, 4, none⟩ = some (.bool e) ∧ w'.cell? ⟨w.heap.size, 5, none⟩ = some (.string (str p)) ∧ w'.cell? ⟨w.heap.size, 6, none⟩ = some (.slice dA dat.length dc) ∧ w'.cell? ⟨w1.heap.size, 0, none⟩ = some (.int .u8 q.kind) ∧ w'.cell? ⟨w1.heap.size, 1, none⟩ = some (.int .u8 q.side) ∧ w'.cell? ⟨w1.heap.size, 2, none⟩ = some (.int .i64 q.n) ∧ w'.cell? ⟨w1.heap.size, 3, none⟩ = some (.int .u32 q.draw) ∧ w'.cell? ⟨w1.heap.size, 4, none⟩ = some (.bool q.done) ∧ w'.cell? ⟨w1.heap.size, 5, none⟩ = some (.string (str q.path)) ∧ w'.cell? ⟨w1.heap.size, 6, none⟩ = some (.slice yA q.data.length yc) ∧ w'.cell? ⟨w3.heap.size, 0, none⟩ = some (.int .u8 q.kind) ∧ w'.cell? ⟨w3.heap.size, 1, none⟩ = some (.int .u8 q.side) ∧ w'.cell? ⟨w3.heap.size, 2, none⟩ = some (.int .i64 q.n) ∧ w'.cell? ⟨w3.heap.size, 3, none⟩ = some (.int .u32 q.draw) ∧ w'.cell? ⟨w3.heap.size, 4, none⟩ = some (.bool q.done) ∧ w'.cell? ⟨w3.heap.size, 5, none⟩ = some (.string (str q.path)) ∧ w'.cell? ⟨w3.heap.size, 6, none⟩ = some (.slice zA q.data.length zc)) := Aside0.mk (fun w' hb => ⟨(blk_cell ((hb.block _ (blk_lt HX4.out)).trans HX4.out) 0), (blk_cell ((hb.block _ (blk_lt HX4.out)).trans HX4.out) 1), (blk_cell ((hb.block _ (blk_lt HX4.out)).trans HX4.out) 2), (blk_cell ((hb.block _ (blk_lt HX4.out)).trans HX4.out) 3), (blk_cell ((hb.block _ (blk_lt HX4.out)).trans HX4.out) 4), (blk_cell ((hb.block _ (blk_lt HX4.out)).trans HX4.out) 5), (blk_cell ((hb.block _ (blk_lt HX4.out)).trans HX4.out) 6), (blk_cell ((hb.block _ (blk_lt HY4.out)).trans HY4.out) 0), (blk_cell ((hb.block _ (blk_lt HY4.out)).trans HY4.out) 1), (blk_cell ((hb.block _ (blk_lt HY4.out)).trans HY4.out) 2), (blk_cell ((hb.block _ (blk_lt HY4.out)).trans HY4.out) 3), (blk_cell ((hb.block _ (blk_lt HY4.out)).trans HY4.out) 4), (blk_cell ((hb.block _ (blk_lt HY4.out)).trans HY4.out) 5), (blk_cell ((hb.block _ (blk_lt HY4.out)).trans HY4.out) 6), (blk_cell ((hb.block _ (blk_lt HZ4.out)).trans HZ4.out) 0), (blk_cell ((hb.block _ (blk_lt HZ4.out)).trans HZ4.out) 1), (blk_cell ((hb.block _ (blk_lt HZ4.out)).trans HZ4.out) 2), (blk_cell ((hb.block _ (blk_lt HZ4.out)).trans HZ4.out) 3), (blk_cell ((hb.block _ (blk_lt HZ4.out)).trans HZ4.out) 4), (blk_cell ((hb.block _ (blk_lt HZ4.out)).trans HZ4.out) 5), (blk_cell ((hb.block _ (blk_lt HZ4.out)).trans HZ4.out) 6)⟩)
  have a0 : w4.cell? ⟨w.heap.size, 0, none⟩ = some (.int .u8 k) := blk_cell HX4.out 0
  have a1 : w4.cell? ⟨w.heap.size, 1, none⟩ = some (.int .u8 s) := blk_cell HX4.out 1
  have a2 : w4.cell? ⟨w.heap.size, 2, none⟩ = some (.int .i64 n) := blk_cell HX4.out 2
  have a3 : w4.cell? ⟨w.heap.size, 3, none⟩ = some (.int .u32 d) := blk_cell HX4.out 3
  have a4 : w4.cell? ⟨w.heap.size, 4, none⟩ = some (.bool e) := blk_cell HX4.out 4
  have a5 : w4.cell? ⟨w.heap.size, 5, none⟩ = some (.string (str p)) := blk_cell HX4.out 5
  have a6 : w4.cell? ⟨w.heap.size, 6, none⟩ = some (.slice dA dat.length dc) := blk_cell HX4.out 6
  have y0 : w4.cell? ⟨w1.heap.size, 0, none⟩ = some (.int .u8 q.kind) := blk_cell HY4.out 0
  have y1 : w4.cell? ⟨w1.heap.size, 1, none⟩ = some (.int .u8 q.side) := blk_cell HY4.out 1
  have y2 : w4.cell? ⟨w1.heap.size, 2, none⟩ = some (.int .i64 q.n) := blk_cell HY4.out 2
  have y3 : w4.cell? ⟨w1.heap.size, 3, none⟩ = some (.int .u32 q.draw) := blk_cell HY4.out 3
  have y4 : w4.cell? ⟨w1.heap.size, 4, none⟩ = some (.bool q.done) := blk_cell HY4.out 4
  have y5 : w4.cell? ⟨w1.heap.size, 5, none⟩ = some (.string (str q.path)) := blk_cell HY4.out 5
  have y6 : w4.cell? ⟨w1.heap.size, 6, none⟩ = some (.slice yA q.data.length yc) := blk_cell HY4.out 6
  have z0 : w4.cell? ⟨w3.heap.size, 0, none⟩ = some (.int .u8 q.kind) := blk_cell HZ4.out 0
  have z1 : w4.cell? ⟨w3.heap.size, 1, none⟩ = some (.int .u8 q.side) := blk_cell HZ4.out 1
  have z2 : w4.cell? ⟨w3.heap.size, 2, none⟩ = some (.int .i64 q.n) := blk_cell HZ4.out 2
  have z3 : w4.cell? ⟨w3.heap.size, 3, none⟩ = some (.int .u32 q.draw) := blk_cell HZ4.out 3
  have z4 : w4.cell? ⟨w3.heap.size, 4, none⟩ = some (.bool q.done) := blk_cell HZ4.out 4
  have z5 : w4.cell? ⟨w3.heap.size, 5, none⟩ = some (.string (str q.path)) := blk_cell HZ4.out 5
  have z6 : w4.cell? ⟨w3.heap.size, 6, none⟩ = some (.slice zA q.data.length zc) := blk_cell HZ4.out 6
  have hAl : dat.length ≤ 1000000 := by omega
  have hpl : p.length ≤ 1000000 := by omega
  go_region_held3 (fun w' => w'.cell? ⟨w.heap.size, 0, none⟩ = some (.int .u8 k) ∧ w'.cell? ⟨w.heap.size, 1, none⟩ = some (.int .u8 s) ∧ w'.cell? ⟨w.heap.size, 2, none⟩ = some (.int .i64 n) ∧ w'.cell? ⟨w.heap.size, 3, none⟩ = some (.int .u32 d) ∧ w'.cell? ⟨w.heap.size, 4, none⟩ = some (.bool e) ∧ w'.cell? ⟨w.heap.size, 5, none⟩ = some (.string (str p)) ∧ w'.cell? ⟨w.heap.size, 6, none⟩ = some (.slice dA dat.length dc) ∧ w'.cell? ⟨w1.heap.size, 0, none⟩ = some (.int .u8 q.kind) ∧ w'.cell? ⟨w1.heap.size, 1, none⟩ = some (.int .u8 q.side) ∧ w'.cell? ⟨w1.heap.size, 2, none⟩ = some (.int .i64 q.n) ∧ w'.cell? ⟨w1.heap.size, 3, none⟩ = some (.int .u32 q.draw) ∧ w'.cell? ⟨w1.heap.size, 4, none⟩ = some (.bool q.done) ∧ w'.cell? ⟨w1.heap.size, 5, none⟩ = some (.string (str q.path)) ∧ w'.cell? ⟨w1.heap.size, 6, none⟩ = some (.slice yA q.data.length yc) ∧ w'.cell? ⟨w3.heap.size, 0, none⟩ = some (.int .u8 q.kind) ∧ w'.cell? ⟨w3.heap.size, 1, none⟩ = some (.int .u8 q.side) ∧ w'.cell? ⟨w3.heap.size, 2, none⟩ = some (.int .i64 q.n) ∧ w'.cell? ⟨w3.heap.size, 3, none⟩ = some (.int .u32 q.draw) ∧ w'.cell? ⟨w3.heap.size, 4, none⟩ = some (.bool q.done) ∧ w'.cell? ⟨w3.heap.size, 5, none⟩ = some (.string (str q.path)) ∧ w'.cell? ⟨w3.heap.size, 6, none⟩ = some (.slice zA q.data.length zc)) (exact HALL.out _ (by repeat (first | exact HA4.out | apply pw_below_drewN | apply below_drew1))) ((first | (go_at_call 14; refine (text_step hk hs hn0 hn1 hd hpl hAl _ (HF.out _ (by repeat (first | exact HA4.out | apply pw_below_drewN | apply below_drew1))).1 (HF.out _ (by repeat (first | exact HA4.out | apply pw_below_drewN | apply below_drew1))).2.1).mono ?_; rintro r w5 ⟨rfl, hb5⟩; have HA4 : Aside0 (Below w4.heap.size w4 w5) := Aside0.mk (Below.trans (by repeat (first | exact HA4.out | apply pw_below_drewN | apply below_drew1)) (hb5.mono (Below.size (w := w4) (B := w4.heap.size) (by repeat (first | exact HA4.out | apply pw_below_drewN | apply below_drew1))))); clear hb5) | (go_at_call 16; refine (same_q q _ (HF.out _ (by repeat (first | exact HA4.out | apply pw_below_drewN | apply below_drew1))).2.2.1 (HF.out _ (by repeat (first | exact HA4.out | apply pw_below_drewN | apply below_drew1))).2.2.2).mono ?_; rintro r w5 ⟨rfl, hb5⟩; have HA4 : Aside0 (Below w4.heap.size w4 w5) := Aside0.mk (Below.trans (by repeat (first | exact HA4.out | apply pw_below_drewN | apply below_drew1)) (hb5.mono (Below.size (w := w4) (B := w4.heap.size) (by repeat (first | exact HA4.out | apply pw_below_drewN | apply below_drew1))))); clear hb5) | (go_at_call 8; refine (awake_calls _ (HF.out _ (by repeat (first | exact HA4.out | apply pw_below_drewN | apply below_drew1))).2.1).mono ?_; rintro r w5 ⟨rfl, hb5⟩; have HA4 : Aside0 (Below w4.heap.size w4 w5) := Aside0.mk (Below.trans (by repeat (first | exact HA4.out | apply pw_below_drewN | apply below_drew1)) (hb5.mono (Below.size (w := w4) (B := w4.heap.size) (by repeat (first | exact HA4.out | apply pw_below_drewN | apply below_drew1))))); clear hb5) | (go_at_call 15; refine (rtext15_calls hk hs hd hn0 hn1 hpl hAl _ (HF.out _ (by repeat (first | exact HA4.out | apply pw_below_drewN | apply below_drew1))).1).mono ?_; rintro r w5 ⟨rfl, hb5⟩; have HA4 : Aside0 (Below w4.heap.size w4 w5) := Aside0.mk (Below.trans (by repeat (first | exact HA4.out | apply pw_below_drewN | apply below_drew1)) (hb5.mono (Below.size (w := w4) (B := w4.heap.size) (by repeat (first | exact HA4.out | apply pw_below_drewN | apply below_drew1))))); clear hb5)))
  all_goals
    have HBE : Aside0 (Below w.heap.size w w5) := Aside0.mk (HB4.out.trans (HA4.out.mono HB4.out.size))
    go_wp2_with fail
    go_ret
    exact ⟨rfl, HBE.out⟩
end Go.Proofs.YtfjjikabinelgaaDoor
namespace Go.Proofs.YtfjjikabinelgaaDoor
open Go.ChangeShapes Go.WideShapes Go.ChangeAt Go.RowKit
open Go.ChangeMaps (open_string shut_string)
set_option linter.unusedVariables false

set_option maxRecDepth 100000 in
theorem lifted_texts (os : Os) (started : os.Started) (H : Type) (enc : TypeId × Value → H) :
    ReturnsInHanded {} Tryd.checked os 4 .any (fun w args => (Rows.scriptTextsSpec.pre enc Tryd.prog Tryd.f4 Rows.scriptTextsRow.domain false w args ∧ laidMetH Tryd.prog laid7 w) ∧ sizedMet enc Tryd.prog Tryd.f4 (OpenSpec.ofChange Rows.scriptTextsSpec) false w args)
      (Rows.scriptTextsSpec.post enc Tryd.prog Tryd.f4 false true false false) := by
  refine returnsInHanded_of_change_both (C := Tryd.checked) (X := fun w _ => laidMetH Tryd.prog laid7 w) (fun _ _ _ hh h => h.of_heap hh) own started (by kernel_rfl) Tryd.func4
    (ChangeSpec.witness_shaped (enc := enc) (C := Tryd.checked) (os := os) (X := fun w _ => laidMetH Tryd.prog laid7 w) false (World.laidAll Tryd.prog os laid7) #[.agg #[.int .u8 0, .int .u8 0, .int .i64 0, .int .u32 0, .bool false, .string ByteArray.empty, .slice none 0 0], .string ByteArray.empty] 8 (World.laidAll_os _ _ _)
      (World.shaped_of_ZipB (by kernel_rfl) (by kernel_rfl)) (by kernel_rfl) (by kernel_rfl) (by kernel_rfl) (door_met os _)) ?_
  intro W base args ds gs before hval0 hW hcnd hsz0 hL hSh _
  have hval : ∀ (j : Nat) t v, Tryd.f4.params[j]? = some t → args[j]? = some v → Value.okWide Tryd.prog W .any base t v := hval0
  have hW' := hW
  obtain ⟨p, q, hA0, hV, rfl, hfz, hnd⟩ := hW
  have hA : DataW.TrodAll enc Tryd.prog W 0 (fun _ => true) true Tryd.f4.params.toList args.toList ds p := hA0
  rw [Tryd.params4] at hA hval
  obtain ⟨v0, vs0, d0, ds0, p0, q0, hargs, rfl, rfl, h0, r0⟩ := trodAll_cons hA
  obtain ⟨v1, vs1, d1, ds1, p1, q1, rfl, rfl, rfl, h1, r1⟩ := trodAll_cons r0
  obtain ⟨rfl, rfl, rfl⟩ := trodAll_nil r1
  obtain rfl : args = #[v0, v1] := by cases args; simp_all
  obtain ⟨rfl, rfl⟩ := trodVars_none hV
  have k0 := h0
  have lt0 : ∀ x ∈ p0, x.block < W.heap.size := by obtain ⟨m, hm⟩ := k0; exact DataW.trod_lt m _ _ _ hm
  obtain ⟨k, s, dr, n, e, p, dat, dv, rfl, hk, hs, hd, hn0, hn1, hby⟩ := open_step (hval 0 32 v0 rfl rfl) h0
  obtain ⟨a1, rfl, rfl, rfl, y1⟩ := open_string Tryd.underlying9 (hval 1 9 v1 rfl rfl) h1
  have hE := env_of_laid hL hSh
  clear hA0 hval0 hsz0
  refine (texts_calls (l := a1.data.toList) hk hs hn0 hn1 hd W hby hE).mono fun e W' ⟨he, bel⟩ => ?_
  subst he
  exact ⟨_, rfl, _, _, _, [], _, [], hW', trodAll_mk1 (shut_bool Tryd.underlying4 _), (trodAll_cons_mk (Below.trod laidOut (by kernel_rfl) (of_decide_eq_true (by kernel_rfl)) k0 bel lt0) (trodAll_cons_mk (shut_string Tryd.underlying9 y1) trodAll_mk0)), rfl, bel.frame _, fun h => by cases h⟩

theorem scriptTexts_holds : Rows.ScriptTextsSaid :=
  OpenClaim.holds_of_wide 4 Tryd.f4 rfl rfl rfl rfl rfl rfl rfl ⟨rfl, rfl, rfl, rfl, rfl⟩ rfl rfl rfl rfl rfl (by kernel_rfl) Tryd.func4 (by kernel_rfl)
    (of_decide_eq_true (by kernel_rfl)) (by unfold Func.isWrapper; first | (rw [if_pos (by decide +kernel)]; kernel_rfl) | (rw [if_neg (by decide +kernel)]; exact ⟨rfl, rfl⟩))
    (fun os started H enc _ => lifted_texts os started H enc)

theorem scriptTexts_card_holds : Rows.ScriptTextsCardSaid :=
  Claim7.holds_tied_plain_at .later [] [.data, .data, .data, .data, .sentinel, .sentinel, .pinned] true (true, "6639d055d360be85fd07f84be864ec214fddbd2905653df85bb6eb12e661aa42") true
    scriptTexts_holds (fun _ h => by cases h) (by kernel_rfl) (fun _ h => by cases h) scriptTexts_row_tie rfl ⟨rfl, rfl⟩ (by kernel_rfl) rfl
    (fun f fn hf hfn => by
      obtain rfl : f = 4 := Option.some.inj ((show Tryd.prog.funcNamed "sumpter/sumpterlaw34.ScriptTexts" = some 4 by kernel_rfl).symm.trans hf) |>.symm
      obtain rfl : fn = Tryd.f4 := (Option.some.inj (Tryd.func4.symm.trans hfn)).symm
      exact ⟨by kernel_rfl, fun j t ht => by
        rw [Tryd.params4] at ht
        have hm : t ∈ [32, 9] := by simpa using Array.mem_of_getElem? ht
        have hall : ([32, 9].all fun u => !Tryd.prog.wantsStandIn u) = true := by kernel_rfl
        exact (show Tryd.prog.wantsStandIn t = false by simpa using List.all_eq_true.1 hall t hm)⟩)
    (by kernel_rfl)
#print axioms scriptTexts_card_holds
end Go.Proofs.YtfjjikabinelgaaDoor
