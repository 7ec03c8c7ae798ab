/- Walk of awake: what every right program decodes and tells. -/
import Derived.Test.YtfjjikabinelgaaDoorLines
import Derived.Test.YtfjjikabinelgaaDoorText
namespace Go.Proofs.YtfjjikabinelgaaDoor
open Go.RowKit Go.Maps Go.Proofs Go.Proofs.YtfjjikabinelgaaDoorW.PrintWords Go.Proofs.YtfjjikabinelgaaDoorW.PrintLast Go.Proofs.YtfjjikabinelgaaDoorW.PrintMore Sc PScriptLines
set_option linter.unusedVariables false
set_option linter.unusedSimpArgs false

theorem dec1 : Lib.decDigits 1 = [49] := by rw [Lib.decDigits]; rfl
theorem dec2 : Lib.decDigits 2 = [50] := by rw [Lib.decDigits]; rfl
theorem dec3 : Lib.decDigits 3 = [51] := by rw [Lib.decDigits]; rfl

theorem aw_decode : Sc.decode 4096 [0, 5, 7, 1] = [⟨0, 0, 5, 7, false, [], []⟩, ⟨1, 0, 0, 0, false, [], []⟩] := by
  show Sc.decode (4093 + 1 + 1 + 1) [0, 5, 7, 1] = _
  simp [Sc.decode, Sc.step, stepK, one]

theorem aw_text : textP ⟨6, 1, 3, 0, false, [], []⟩ = [99, 114, 97, 115, 104, 32, 49, 32, 51, 32, 45] := by
  unfold textP
  rw [if_pos (by decide)]
  simp [fields, fSide, fN, fDraw, fDone, fPath, fData, sided, hasN, hasD, word, dec1, dec3, joinc, hexP]
theorem aw_canon : Canon ⟨6, 1, 3, 0, false, [], []⟩ := ⟨by decide, by decide, by decide, by decide, by decide, by decide, by decide⟩
theorem aw_parse : parseS [99, 114, 97, 115, 104, 32, 49, 32, 51, 32, 45] = some ⟨6, 1, 3, 0, false, [], []⟩ := by
  rw [← aw_text]
  exact parseS_mk (by decide) aw_canon
theorem aw_text2 : textP ⟨0, 0, 1, 2, false, [], []⟩ = [116, 105, 99, 107, 32, 49, 32, 50] := by
  unfold textP
  rw [if_pos (by decide)]
  simp [fields, fSide, fN, fDraw, fDone, fPath, fData, sided, hasN, hasD, word, dec1, dec2, joinc, hexP]
theorem aw_parse2 : parseS [116, 105, 99, 107, 32, 49, 32, 50] = some ⟨0, 0, 1, 2, false, [], []⟩ := by
  rw [← aw_text2]
  exact parseS_mk (by decide) ⟨by decide, by decide, by decide, by decide, by decide, by decide, by decide⟩
theorem aw_parse3 : parseS [120] = none := by
  have h : kindOf (nextP (spl 32 [120], false)).1 = none := by decide
  unfold parseS
  rw [h]
theorem aw_lines : linesP 0 (spl 10 [35, 32, 97, 10, 10, 116, 105, 99, 107, 32, 49, 32, 50, 10, 120]) = ([⟨0, 0, 1, 2, false, [], []⟩], 4) := by
  have h : spl 10 [35, 32, 97, 10, 10, 116, 105, 99, 107, 32, 49, 32, 50, 10, 120] = [[35, 32, 97], [], [116, 105, 99, 107, 32, 49, 32, 50], [120]] := by decide
  rw [h]
  simp [linesP, aw_parse2, aw_parse3]

theorem aw_by (w : World) : By (w.alloc (.cells #[.int .u8 0, .int .u8 5, .int .u8 7, .int .u8 1] 5)) (.slice (some ⟨w.heap.size, 0, none⟩) 4 4) [0, 5, 7, 1] := by
  refine ⟨_, 4, rfl, Nat.le_refl _, Kd.C_of_reads (d := (0 : Int)) ⟨rfl, by decide, fun _ => ⟨_, rfl, fun j hj => ?_⟩⟩⟩
  have hb : (w.alloc (.cells #[.int .u8 0, .int .u8 5, .int .u8 7, .int .u8 1] 5)).heap[w.heap.size]? = some (.cells #[.int .u8 0, .int .u8 5, .int .u8 7, .int .u8 1] 5 (0, 0)) := heap_alloc_new w _
  have hj4 : j < 4 := hj
  rw [add_plain, blk_cell hb]
  have : j = 0 ∨ j = 1 ∨ j = 2 ∨ j = 3 := by omega
  rcases this with rfl | rfl | rfl | rfl <;> rfl

/-- The cells of the steps that awake asks for. -/
theorem aw_cells {w : World} {base : Nat} {ok : Nat → Prop} {A : Option Addr} {c : Nat} {xs : List Stp} (h : Kd.R k33 33 w base ok (.slice A (xs.map s33).length c) (xs.map s33)) (hx : 0 < xs.length) :
    ∃ b, A = some ⟨b, 0, none⟩ ∧ ∀ (k : Nat) (hk : k < xs.length), w.cell? ⟨b, k * 7, none⟩ = some (.int .u8 xs[k].kind) ∧ w.cell? ⟨b, k * 7 + 1, none⟩ = some (.int .u8 xs[k].side) ∧ w.cell? ⟨b, k * 7 + 2, none⟩ = some (.int .i64 xs[k].n) ∧ w.cell? ⟨b, k * 7 + 3, none⟩ = some (.int .u32 xs[k].draw) ∧ w.cell? ⟨b, k * 7 + 4, none⟩ = some (.bool xs[k].done) ∧ w.cell? ⟨b, k * 7 + 5, none⟩ = some (.string (str xs[k].path)) := by
  obtain ⟨g, cap, e, _⟩ := Kd.R_form h (by rw [List.length_map]; exact hx)
  injection e with e1 e2 e3
  subst e1
  refine ⟨g, rfl, fun k hk => ?_⟩
  have hC := (Kd.R_reads' h).2.2
  obtain ⟨ad, A6, c6, ea, h0, h1, h2, h3, h4, h5, _⟩ := at_T33 hC (k : Int) (by omega) (by rw [List.length_map]; omega)
  injection ea with ea
  subst ea
  have ek : (k : Int).toNat = k := by omega
  have er : rd_T33 (xs.map s33) (k : Int) = s33 xs[k] := by
    unfold rd_T33
    rw [ek, List.getD_eq_getElem?_getD, List.getElem?_map, List.getElem?_eq_getElem hk]
    rfl
  rw [er, ek, add_plain] at h0
  rw [er, ek, add_plain] at h1 h2 h3 h4 h5
  simp only [Nat.zero_add] at h0 h1 h2 h3 h4 h5
  exact ⟨h0, h1, h2, h3, h4, h5⟩

theorem aw_decode_calls (w : World) : Calls Tryd.prog 10 #[.slice (some ⟨w.heap.size, 0, none⟩) 4 4] (w.alloc (.cells #[.int .u8 0, .int .u8 5, .int .u8 7, .int .u8 1] 5)) fun e w' => ∃ b c, e = .returned (.slice (some ⟨b, 0, none⟩) 2 c) ∧ Below w.heap.size w w' ∧
    w'.cell? ⟨b, 0, none⟩ = some (.int .u8 0) ∧ w'.cell? ⟨b, 2, none⟩ = some (.int .i64 5) ∧ w'.cell? ⟨b, 3, none⟩ = some (.int .u32 7) ∧ w'.cell? ⟨b, 7, none⟩ = some (.int .u8 1) ∧ w'.cell? ⟨b, 9, none⟩ = some (.int .i64 0) := by
  refine (decode_calls _ (aw_by w)).mono ?_
  rintro e w1 ⟨u, rfl, hb1, hR1⟩
  rw [aw_decode] at hR1
  obtain ⟨uA, uc, rfl⟩ := Kd.R_slice hR1
  obtain ⟨ub, rfl, hcl⟩ := aw_cells hR1 (by decide)
  have h0 := hcl 0 (by decide)
  have h1 := hcl 1 (by decide)
  exact ⟨ub, uc, rfl, ((Below.refl _ _).alloc (Nat.le_refl _) _).trans (hb1.mono (by simp)), h0.1, h0.2.2.1, h0.2.2.2.1, h1.1, h1.2.2.1⟩
theorem aw_parse_calls (w : World) (he : Env w) : Calls Tryd.prog 12 #[.string ⟨#[99, 114, 97, 115, 104, 32, 49, 32, 51, 32, 45]⟩] w fun e w' => ∃ A c, e = .returned (.tuple #[.agg #[.int .u8 6, .int .u8 1, .int .i64 3, .int .u32 0, .bool false, .string ⟨#[]⟩, .slice A 0 c], .int .i64 0]) ∧ Below w.heap.size w w' := by
  have hp := parse_calls [99, 114, 97, 115, 104, 32, 49, 32, 51, 32, 45] (by decide) w he
  rw [aw_parse] at hp
  refine hp.mono ?_
  rintro e w2 ⟨cs, rfl, hM, hb2⟩
  obtain ⟨v6, rfl, h6⟩ := k33_openM hM
  obtain ⟨A6, c6, rfl⟩ := Kd.R_slice h6
  exact ⟨A6, c6, rfl, hb2⟩
theorem aw_lines_calls (w : World) (he : Env w) : Calls Tryd.prog 17 #[.string ⟨#[35, 32, 97, 10, 10, 116, 105, 99, 107, 32, 49, 32, 50, 10, 120]⟩] w fun e w' => ∃ v, e = .returned (.tuple #[v, .int .i64 4, .int .i64 60]) ∧ Below w.heap.size w w' := by
  have hp := lines_calls [35, 32, 97, 10, 10, 116, 105, 99, 107, 32, 49, 32, 50, 10, 120] (by decide) w he
  rw [aw_lines] at hp
  refine hp.mono ?_
  rintro e w2 ⟨v, rfl, hb2, _⟩
  exact ⟨v, rfl, hb2⟩
theorem aw_text_calls (A : Option Addr) (c : Nat) (w : World) (he : Env w) : Calls Tryd.prog 14 #[.agg #[.int .u8 6, .int .u8 1, .int .i64 3, .int .u32 0, .bool false, .string ⟨#[]⟩, .slice A 0 c]] w fun e w' => e = .returned (.string ⟨#[99, 114, 97, 115, 104, 32, 49, 32, 51, 32, 45]⟩) ∧ Below w.heap.size w w' := by
  have ht := text_step (k := 6) (s := 1) (n := 3) (d := 0) (e := false) (p := []) (dat := []) (by decide) (by decide) (by decide) (by decide) (by decide) (by decide) (by decide) w (By.nil w A c) he
  rw [aw_text] at ht
  exact ht

set_option maxHeartbeats 4000000 in
set_option maxRecDepth 100000 in
theorem awake_calls (w : World) (he : Env w) : Calls Tryd.prog 8 #[] w fun e w' => e = .returned (.bool true) ∧ Below w.heap.size w w' := by
  have HE := Aside0.mk he
  clear he
  go_enter Tryd.func8, Tryd.ntmps8
  go_wp2_with fail
  refine (aw_decode_calls w).mono ?_
  rintro e w1 ⟨b, c, rfl, hb1, h0, h2, h3, h7, h9⟩
  have HB1 := Aside0.mk hb1
  have H0 := Aside0.mk h0
  have H2 := Aside0.mk h2
  have H3 := Aside0.mk h3
  have H7 := Aside0.mk h7
  have H9 := Aside0.mk h9
  clear hb1 h0 h2 h3 h7 h9
  go_wp2_with fail
  refine (aw_parse_calls w1 (HE.out.below HB1.out)).mono ?_
  rintro e w2 ⟨A6, c6, rfl, hb2⟩
  have HB2 := Aside0.mk hb2
  clear hb2
  go_wp2_with fail
  have HB2' : Aside0 (Below w.heap.size w (w2.alloc (.cells #[.int .u8 6, .int .u8 1, .int .i64 3, .int .u32 0, .bool false, .string ⟨#[]⟩, .slice A6 0 c6] 33))) := Aside0.mk ((HB1.out.trans (HB2.out.mono HB1.out.size)).alloc (Nat.le_trans HB1.out.size HB2.out.size) _)
  have HX : Aside0 ((w2.alloc (.cells #[.int .u8 6, .int .u8 1, .int .i64 3, .int .u32 0, .bool false, .string ⟨#[]⟩, .slice A6 0 c6] 33)).heap[w2.heap.size]? = some (.cells #[.int .u8 6, .int .u8 1, .int .i64 3, .int .u32 0, .bool false, .string ⟨#[]⟩, .slice A6 0 c6] 33 (0, 0))) := Aside0.mk (heap_alloc_new w2 _)
  have HB12 : Aside0 (Below w1.heap.size w1 (w2.alloc (.cells #[.int .u8 6, .int .u8 1, .int .i64 3, .int .u32 0, .bool false, .string ⟨#[]⟩, .slice A6 0 c6] 33))) := Aside0.mk (HB2.out.alloc HB2.out.size _)
  generalize w2.alloc (.cells #[.int .u8 6, .int .u8 1, .int .i64 3, .int .u32 0, .bool false, .string ⟨#[]⟩, .slice A6 0 c6] 33) = w3 at *
  refine (aw_lines_calls w3 (HE.out.below HB2'.out)).mono ?_
  rintro e w4 ⟨v4, rfl, hb4⟩
  have HB14 : Aside0 (Below w1.heap.size w1 w4) := Aside0.mk (HB12.out.trans (hb4.mono HB12.out.size))
  have HB4 : Aside0 (Below w.heap.size w w4) := Aside0.mk (HB2'.out.trans (hb4.mono HB2'.out.size))
  have hX4 : w4.heap[w2.heap.size]? = some (.cells #[.int .u8 6, .int .u8 1, .int .i64 3, .int .u32 0, .bool false, .string ⟨#[]⟩, .slice A6 0 c6] 33 (0, 0)) := (hb4.block _ (blk_lt HX.out)).trans HX.out
  have c0 := pw_cell_below HB14.out H0.out
  have c2 := pw_cell_below HB14.out H2.out
  have c3 := pw_cell_below HB14.out H3.out
  have c7 := pw_cell_below HB14.out H7.out
  have c9 := pw_cell_below HB14.out H9.out
  have x0 : w4.cell? ⟨w2.heap.size, 0, none⟩ = some (.int .u8 6) := blk_cell hX4 0
  have x1 : w4.cell? ⟨w2.heap.size, 1, none⟩ = some (.int .u8 1) := blk_cell hX4 1
  have x2 : w4.cell? ⟨w2.heap.size, 2, none⟩ = some (.int .i64 3) := blk_cell hX4 2
  have x3 : w4.cell? ⟨w2.heap.size, 3, none⟩ = some (.int .u32 0) := blk_cell hX4 3
  have x4 : w4.cell? ⟨w2.heap.size, 4, none⟩ = some (.bool false) := blk_cell hX4 4
  have x5 : w4.cell? ⟨w2.heap.size, 5, none⟩ = some (.string ⟨#[]⟩) := blk_cell hX4 5
  have x6 : w4.cell? ⟨w2.heap.size, 6, none⟩ = some (.slice A6 0 c6) := blk_cell hX4 6
  clear hX4 hb4
  go_wp2_with fail
  refine (aw_text_calls A6 c6 w4 (HE.out.below HB4.out)).mono ?_
  rintro e w5 ⟨rfl, hb5⟩
  have HB5 : Aside0 (Below w.heap.size w w5) := Aside0.mk (HB4.out.trans (hb5.mono HB4.out.size))
  clear c0 c2 c3 c7 c9 x0 x1 x2 x3 x4 x5 x6 hb5
  go_wp2_with fail
  go_ret
  exact ⟨rfl, HB5.out⟩
end Go.Proofs.YtfjjikabinelgaaDoor
