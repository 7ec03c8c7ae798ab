/- Walk of ScriptBack. -/
import Derived.Test.YtfjjikabinelgaaDoorBegins
namespace Go.Proofs.YtfjjikabinelgaaDoor
open Go.RowKit Go.Maps Go.Proofs Go.Proofs.YtfjjikabinelgaaDoorW.PrintWords Go.Proofs.YtfjjikabinelgaaDoorW.PrintLast Go.Proofs.YtfjjikabinelgaaDoorW.PrintMore Sc PScriptLines
set_option linter.unusedVariables false
set_option linter.unusedSimpArgs false

/-- A step's value. -/
def stV (x : Stp) (v : Value) : Value := .agg #[.int .u8 x.kind, .int .u8 x.side, .int .i64 x.n, .int .u32 x.draw, .bool x.done, .string (str x.path), v]

theorem parse_some {l : List UInt8} {y : Stp} (hl : l.length ≤ 1000000) (hp : parseS l = some y) (w : World) (he : Env w) :
    Calls Tryd.prog 12 #[.string (str l)] w fun e w' => ∃ A c, e = .returned (.tuple #[.agg #[.int .u8 y.kind, .int .u8 y.side, .int .i64 y.n, .int .u32 y.draw, .bool y.done, .string (str y.path), .slice A y.data.length c], .int .i64 0]) ∧ By w' (.slice A y.data.length c) y.data ∧ Below w.heap.size w w' := by
  have h := parse_calls l hl w he
  rw [hp] at h
  refine h.mono ?_
  rintro e w2 ⟨cs, rfl, hM, hb2⟩
  obtain ⟨A6, c6, rfl, l6, g6⟩ := k33_open (k33.K_of_M hM)
  have el : (s33 ((some y).getD Stp.nil)).f6.length = y.data.length := ints_len y.data
  rw [el] at l6 g6
  refine ⟨A6, c6, ?_, ⟨A6, c6, rfl, l6, g6⟩, hb2⟩
  rw [el]
  rfl

theorem parse_none {l : List UInt8} (hl : l.length ≤ 1000000) (hp : parseS l = none) (w : World) (he : Env w) :
    Calls Tryd.prog 12 #[.string (str l)] w fun e w' => ∃ A c, e = .returned (.tuple #[.agg #[.int .u8 0, .int .u8 0, .int .i64 0, .int .u32 0, .bool false, .string ⟨#[]⟩, .slice A 0 c], .int .i64 60]) ∧ Below w.heap.size w w' := by
  have h := parse_calls l hl w he
  rw [hp] at h
  refine h.mono ?_
  rintro e w2 ⟨cs, rfl, hM, hb2⟩
  obtain ⟨A6, c6, rfl, l6, g6⟩ := k33_open (k33.K_of_M hM)
  exact ⟨A6, c6, rfl, hb2⟩

theorem joinc_mem (c : UInt8) : ∀ (xs : List (List UInt8)) (x : List UInt8), x ∈ xs → x.length ≤ (joinc c xs).length
  | [], x, h => by cases h
  | [y], x, h => by obtain rfl := List.mem_singleton.1 h; exact Nat.le_refl _
  | y :: z :: r, x, h => by
    rw [joinc_cons c y (by simp)]
    rcases List.mem_cons.1 h with rfl | h
    · simp
    · have := joinc_mem c (z :: r) x h
      simp only [List.length_append, List.length_cons] at this ⊢
      omega

/-- What a step that a line is has. -/
theorem parsed_bounds {l : List UInt8} {y : Stp} (hl : l.length ≤ 1000000) (hp : parseS l = some y) : y.kind ≤ 9 ∧ y.side ≤ 1 ∧ 0 ≤ y.n ∧ y.n ≤ 1099511627776 ∧ y.draw < 4294967296 ∧ y.path.length ≤ 1000000 ∧ y.data.length ≤ 1000000 ∧ textP y = l := by
  obtain ⟨hh, hc, ht⟩ := parseS_ok hp
  have htx : joinc 32 (fields y) = l := by rw [← ht]; exact (if_pos hh).symm
  have hmem := joinc_mem 32 (fields y)
  rw [htx] at hmem
  refine ⟨hh.1, hh.2.1, hh.2.2.1, hh.2.2.2.1, hc.draw32, ?_, ?_, ht⟩
  · by_cases hk : y.kind = 9
    · have : y.path ∈ fields y := by simp [fields, fPath, hk]
      have := hmem _ this
      omega
    · rw [hc.path hk]; simp
  · cases hd : hasD y.kind
    · rw [hc.data hd]; simp
    · have : hexP y.data ∈ fields y := by simp [fields, fData, hd]
      have h1 := hmem _ this
      unfold hexP at h1
      split at h1
      · next h0 => rw [h0]; simp
      · rw [hexb_len] at h1; omega

theorem text_len {k s d : Nat} {n : Int} {e : Bool} {p dat : List UInt8} (hs : s < 256) (hd : d < 4294967296) (hp : p.length ≤ 300) (hdl : dat.length ≤ 300) : (textP ⟨k, s, n, d, e, p, dat⟩).length ≤ 10000 := by
  unfold textP
  split
  · next hh =>
    have hn : n ≤ 1099511627776 := hh.2.2.2.1
    have hf : ∀ x ∈ fields ⟨k, s, n, d, e, p, dat⟩, x.length ≤ 601 := by
      intro f hf
      unfold fields at hf
      simp only [List.mem_cons, List.mem_append] at hf
      rcases hf with rfl | hf | hf | hf | hf | hf | hf
      · have := word_len10 k; omega
      · obtain ⟨_, rfl⟩ := mem_if hf; have := dec_len20 s (by omega); omega
      · obtain ⟨_, rfl⟩ := mem_if hf; have := dec_len20 n.toNat (by omega); omega
      · obtain ⟨_, rfl⟩ := mem_if hf; have := dec_len20 d (by omega); omega
      · obtain ⟨_, rfl⟩ := mem_if hf; split <;> simp
      · obtain ⟨_, rfl⟩ := mem_if hf; omega
      · obtain ⟨_, rfl⟩ := mem_if hf
        unfold hexP
        split
        · simp
        · rw [hexb_len]; omega
    have h1 := joinc_len 32 601 _ hf
    have h2 : (fields ⟨k, s, n, d, e, p, dat⟩).length ≤ 7 := by
      simp only [fields, fSide, fN, fDraw, fDone, fPath, fData]
      simp only [List.length_cons, List.length_append]
      repeat' split
      all_goals simp
    have h3 := Nat.mul_le_mul_right (601 + 1) h2
    omega
  · simp

theorem same_zero (A : Option Addr) (c : Nat) (w : World) :
    Calls Tryd.prog 16 #[.agg #[.int .u8 0, .int .u8 0, .int .i64 0, .int .u32 0, .bool false, .string ⟨#[]⟩, .slice A 0 c], .agg #[.int .u8 0, .int .u8 0, .int .i64 0, .int .u32 0, .bool false, .string ⟨#[]⟩, .slice none 0 0]] w fun e w' => e = .returned (.bool true) ∧ Below w.heap.size w w' := by
  have h0 : ∀ B : Option Addr, (Kd.int .u8).C w B ([] : List Int).length [] := fun B => ⟨rfl, by simp, fun h => absurd h (Nat.lt_irrefl 0)⟩
  exact same_refl (s33 Stp.nil) (A0 := A) (A1 := none) (c0 := c) (c1 := 0) w (h0 A) (Nat.zero_le _) (h0 none) (Nat.zero_le _)

/-- The text of a step that a line is: the line. -/
theorem text_parsed {l : List UInt8} {y : Stp} {v : Value} (hl : l.length ≤ 1000000) (hp : parseS l = some y) (w : World) (hv : By w v y.data) (he : Env w) :
    Calls Tryd.prog 14 #[.agg #[.int .u8 y.kind, .int .u8 y.side, .int .i64 y.n, .int .u32 y.draw, .bool y.done, .string (str y.path), v]] w fun r w' => r = .returned (.string (str l)) ∧ Below w.heap.size w w' := by
  obtain ⟨h1, h2, h3, h4, h5, h6, h7, h8⟩ := parsed_bounds hl hp
  have h := text_step (k := y.kind) (s := y.side) (n := y.n) (d := y.draw) (e := y.done) (p := y.path) (dat := y.data) (by omega) (by omega) (by omega) (by omega) h5 h6 h7 w hv he
  have e : textP ⟨y.kind, y.side, y.n, y.draw, y.done, y.path, y.data⟩ = l := h8
  rw [e] at h
  exact h

set_option maxHeartbeats 4000000 in
set_option maxRecDepth 100000 in
theorem back_calls {k s d : Nat} {n : Int} {e : Bool} {p dat l : List UInt8} {dv : Value} (hk : k < 256) (hs : s < 256) (hn0 : -9223372036854775808 ≤ n) (hn1 : n ≤ 9223372036854775807) (hd : d < 4294967296)
    (w : World) (hv : By w dv dat) (he : Env w) :
    Calls Tryd.prog 6 #[.agg #[.int .u8 k, .int .u8 s, .int .i64 n, .int .u32 d, .bool e, .string (str p), dv], .string (str l)] w fun r w' => r = .returned (.bool true) ∧ Below w.heap.size w w' := by
  have HV := Aside0.mk hv
  have HE := Aside0.mk he
  obtain ⟨dA, dc, rfl, _, _⟩ := hv
  clear he
  have HBX : Aside0 (∀ o : Obj, Below w.heap.size w (w.alloc o)) := Aside0.mk (fun o => (Below.refl _ _).alloc (Nat.le_refl _) o)
  have ep : (str p).size = p.length := rfl
  have el : (str l).size = l.length := rfl
  by_cases hbig : (300 : Int) < dat.length ∨ (300 : Int) < p.length ∨ (300 : Int) < l.length
  · have hor : (300 : Int) < dat.length ∨ (¬ (300 : Int) < dat.length ∧ (300 : Int) < p.length) ∨ (¬ (300 : Int) < dat.length ∧ ¬ (300 : Int) < p.length ∧ (300 : Int) < l.length) := by omega
    clear hbig
    rcases hor with hA | ⟨hA, hB⟩ | ⟨hA, hB, hC⟩
    all_goals
      go_enter Tryd.func6, Tryd.ntmps6
      go_wp2_with fail
      refine (awake_calls _ (HE.out.below (HBX.out _))).mono ?_
      rintro r w1 ⟨rfl, hb⟩
      have HB1 : Aside0 (Below w.heap.size w w1) := Aside0.mk ((HBX.out _).trans (hb.mono (HBX.out _).size))
      clear hb
      go_wp2_with fail
      go_ret
      exact ⟨rfl, HB1.out⟩
  have hA : ¬ (300 : Int) < dat.length := by omega
  have hB : ¬ (300 : Int) < p.length := by omega
  have hC : ¬ (300 : Int) < l.length := by omega
  clear hbig
  go_enter Tryd.func6, Tryd.ntmps6
  go_wp2_with fail
  refine (text_step hk hs hn0 hn1 hd (by omega) (by omega) _ (HV.out.below (HBX.out _)) (HE.out.below (HBX.out _))).mono ?_
  rintro r w2 ⟨rfl, hb2⟩
  have HB2 : Aside0 (Below w.heap.size w w2) := Aside0.mk ((HBX.out _).trans (hb2.mono (HBX.out _).size))
  have HX2 : Aside0 (w2.heap[w.heap.size]? = some (.cells #[.int .u8 k, .int .u8 s, .int .i64 n, .int .u32 d, .bool e, .string (str p), .slice dA dat.length dc] 32 (0, 0))) := Aside0.mk ((hb2.block _ (by simp)).trans (heap_alloc_new w _))
  clear hb2
  have hTL : (textP ⟨k, s, n, d, e, p, dat⟩).length ≤ 10000 := text_len hs hd (by omega) (by omega)
  have hTB := back ⟨k, s, n, d, e, p, dat⟩ hd
  generalize hT : textP ⟨k, s, n, d, e, p, dat⟩ = T at *
  have HTB := Aside0.mk hTB
  have HTL := Aside0.mk hTL
  clear hTB hTL hT
  have eT : (str T).toList = T := str_toList T
  go_upto_if 29 with fail
  go_cut [] (fun wc => Aside0 (Below w.heap.size w wc))
  case first =>
    by_cases hT0 : T = []
    · subst hT0
      go_wp2_with fail
      go_meet
      exact HB2
    · obtain ⟨y, hy, hyk, hyt⟩ := HTB.out hT0
      obtain rfl : k = y.kind := hyk.symm
      have hTl : T.length ≤ 1000000 := by have := HTL.out; omega
      have HYB := Aside0.mk (parsed_bounds hTl hy)
      have HY := Aside0.mk hy
      have HYT := Aside0.mk hyt
      have HTN := Aside0.mk hTl
      have hne : (!T.isEmpty) = true := by simpa using hT0
      clear hy hyt hTl
      rw [hne]
      clear hne
      go_wp2_with fail
      refine (parse_some HTN.out HY.out w2 (HE.out.below HB2.out)).mono ?_
      rintro r w3 ⟨yA, yc, rfl, hby, hb3⟩
      have HBY := Aside0.mk hby
      have HB3 := Aside0.mk hb3
      clear hby hb3
      go_upto_region 6 with fail
      have HX3 : Aside0 ((w3.alloc (.cells #[.int .u8 y.kind, .int .u8 y.side, .int .i64 y.n, .int .u32 y.draw, .bool y.done, .string (str y.path), .slice yA y.data.length yc] 33)).heap[w.heap.size]? = some (.cells #[.int .u8 y.kind, .int .u8 s, .int .i64 n, .int .u32 d, .bool e, .string (str p), .slice dA dat.length dc] 32 (0, 0))) := Aside0.mk (((HB3.out.alloc HB3.out.size _).block _ (blk_lt HX2.out)).trans HX2.out)
      have HY3 : Aside0 ((w3.alloc (.cells #[.int .u8 y.kind, .int .u8 y.side, .int .i64 y.n, .int .u32 y.draw, .bool y.done, .string (str y.path), .slice yA y.data.length yc] 33)).heap[w3.heap.size]? = some (.cells #[.int .u8 y.kind, .int .u8 y.side, .int .i64 y.n, .int .u32 y.draw, .bool y.done, .string (str y.path), .slice yA y.data.length yc] 33 (0, 0))) := Aside0.mk (heap_alloc_new w3 _)
      have HBY3 : Aside0 (By (w3.alloc (.cells #[.int .u8 y.kind, .int .u8 y.side, .int .i64 y.n, .int .u32 y.draw, .bool y.done, .string (str y.path), .slice yA y.data.length yc] 33)) (.slice yA y.data.length yc) y.data) := Aside0.mk (HBY.out.below ((Below.refl _ _).alloc (Nat.le_refl _) _))
      have HB4 : Aside0 (Below w.heap.size w (w3.alloc (.cells #[.int .u8 y.kind, .int .u8 y.side, .int .i64 y.n, .int .u32 y.draw, .bool y.done, .string (str y.path), .slice yA y.data.length yc] 33))) := Aside0.mk (HB2.out.trans ((HB3.out.alloc HB3.out.size _).mono HB2.out.size))
      generalize w3.alloc (.cells #[.int .u8 y.kind, .int .u8 y.side, .int .i64 y.n, .int .u32 y.draw, .bool y.done, .string (str y.path), .slice yA y.data.length yc] 33) = w4 at *
      have hx0 : w4.cell? ⟨w.heap.size, 0, none⟩ = some (.int .u8 y.kind) := blk_cell HX3.out 0
      have y0 : w4.cell? ⟨w3.heap.size, 0, none⟩ = some (.int .u8 y.kind) := blk_cell HY3.out 0
      have y1 : w4.cell? ⟨w3.heap.size, 1, none⟩ = some (.int .u8 y.side) := blk_cell HY3.out 1
      have y2 : w4.cell? ⟨w3.heap.size, 2, none⟩ = some (.int .i64 y.n) := blk_cell HY3.out 2
      have y3 : w4.cell? ⟨w3.heap.size, 3, none⟩ = some (.int .u32 y.draw) := blk_cell HY3.out 3
      have y4 : w4.cell? ⟨w3.heap.size, 4, none⟩ = some (.bool y.done) := blk_cell HY3.out 4
      have y5 : w4.cell? ⟨w3.heap.size, 5, none⟩ = some (.string (str y.path)) := blk_cell HY3.out 5
      have y6 : w4.cell? ⟨w3.heap.size, 6, none⟩ = some (.slice yA y.data.length yc) := blk_cell HY3.out 6
      go_wp2_with fail
      refine (text_parsed HTN.out HY.out w4 HBY3.out (HE.out.below HB4.out)).mono ?_
      rintro r w5 ⟨rfl, hb5⟩
      have HB5 : Aside0 (Below w.heap.size w w5) := Aside0.mk (HB4.out.trans (hb5.mono HB4.out.size))
      clear hb5 hx0 y0 y1 y2 y3 y4 y5 y6
      go_wp2_with fail
      go_meet
      exact HB5
  case rest =>
    have HB6 := hcut
    clear hcut HX2 HB2 HTB HTL eT
    have elt : (str l).toList = l := str_toList l
    have hll : l.length ≤ 1000000 := by omega
    go_upto_region 8 with fail
    cases hp : parseS l with
    | none =>
      have HP := Aside0.mk hp
      clear hp
      go_wp2_with fail
      refine (parse_none hll HP.out wc (HE.out.below HB6.out)).mono ?_
      rintro r w3 ⟨zA, zc, rfl, hb3⟩
      have HB3 := Aside0.mk hb3
      clear hb3
      go_upto_region 9 with fail
      have HZ : Aside0 ((w3.alloc (.cells #[.int .u8 0, .int .u8 0, .int .i64 0, .int .u32 0, .bool false, .string ⟨#[]⟩, .slice zA 0 zc] 33)).heap[w3.heap.size]? = some (.cells #[.int .u8 0, .int .u8 0, .int .i64 0, .int .u32 0, .bool false, .string ⟨#[]⟩, .slice zA 0 zc] 33 (0, 0))) := Aside0.mk (heap_alloc_new w3 _)
      have HB4 : Aside0 (Below w.heap.size w (w3.alloc (.cells #[.int .u8 0, .int .u8 0, .int .i64 0, .int .u32 0, .bool false, .string ⟨#[]⟩, .slice zA 0 zc] 33))) := Aside0.mk (HB6.out.trans ((HB3.out.alloc HB3.out.size _).mono HB6.out.size))
      generalize w3.alloc (.cells #[.int .u8 0, .int .u8 0, .int .i64 0, .int .u32 0, .bool false, .string ⟨#[]⟩, .slice zA 0 zc] 33) = w4 at *
      have z0 : w4.cell? ⟨w3.heap.size, 0, none⟩ = some (.int .u8 0) := blk_cell HZ.out 0
      have z1 : w4.cell? ⟨w3.heap.size, 1, none⟩ = some (.int .u8 0) := blk_cell HZ.out 1
      have z2 : w4.cell? ⟨w3.heap.size, 2, none⟩ = some (.int .i64 0) := blk_cell HZ.out 2
      have z3 : w4.cell? ⟨w3.heap.size, 3, none⟩ = some (.int .u32 0) := blk_cell HZ.out 3
      have z4 : w4.cell? ⟨w3.heap.size, 4, none⟩ = some (.bool false) := blk_cell HZ.out 4
      have z5 : w4.cell? ⟨w3.heap.size, 5, none⟩ = some (.string ⟨#[]⟩) := blk_cell HZ.out 5
      have z6 : w4.cell? ⟨w3.heap.size, 6, none⟩ = some (.slice zA 0 zc) := blk_cell HZ.out 6
      go_wp2_with fail
      refine (same_zero zA zc w4).mono ?_
      rintro r w5 ⟨rfl, hb5⟩
      have HB5 : Aside0 (Below w.heap.size w w5) := Aside0.mk (HB4.out.trans (hb5.mono HB4.out.size))
      clear hb5 z0 z1 z2 z3 z4 z5 z6
      go_wp2_with fail
      refine (awake_calls w5 (HE.out.below HB5.out)).mono ?_
      rintro r w7 ⟨rfl, hb7⟩
      have HB7 : Aside0 (Below w.heap.size w w7) := Aside0.mk (HB5.out.trans (hb7.mono HB5.out.size))
      clear hb7
      go_wp2_with fail
      go_ret
      exact ⟨rfl, HB7.out⟩
    | some y =>
      have HP := Aside0.mk hp
      clear hp
      go_wp2_with fail
      refine (parse_some hll HP.out wc (HE.out.below HB6.out)).mono ?_
      rintro r w3 ⟨yA, yc, rfl, hby, hb3⟩
      have HBY := Aside0.mk hby
      have HB3 := Aside0.mk hb3
      clear hby hb3
      go_upto_region 9 with fail
      have HY3 : Aside0 ((w3.alloc (.cells #[.int .u8 y.kind, .int .u8 y.side, .int .i64 y.n, .int .u32 y.draw, .bool y.done, .string (str y.path), .slice yA y.data.length yc] 33)).heap[w3.heap.size]? = some (.cells #[.int .u8 y.kind, .int .u8 y.side, .int .i64 y.n, .int .u32 y.draw, .bool y.done, .string (str y.path), .slice yA y.data.length yc] 33 (0, 0))) := Aside0.mk (heap_alloc_new w3 _)
      have HBY3 : Aside0 (By (w3.alloc (.cells #[.int .u8 y.kind, .int .u8 y.side, .int .i64 y.n, .int .u32 y.draw, .bool y.done, .string (str y.path), .slice yA y.data.length yc] 33)) (.slice yA y.data.length yc) y.data) := Aside0.mk (HBY.out.below ((Below.refl _ _).alloc (Nat.le_refl _) _))
      have HB4 : Aside0 (Below w.heap.size w (w3.alloc (.cells #[.int .u8 y.kind, .int .u8 y.side, .int .i64 y.n, .int .u32 y.draw, .bool y.done, .string (str y.path), .slice yA y.data.length yc] 33))) := Aside0.mk (HB6.out.trans ((HB3.out.alloc HB3.out.size _).mono HB6.out.size))
      generalize w3.alloc (.cells #[.int .u8 y.kind, .int .u8 y.side, .int .i64 y.n, .int .u32 y.draw, .bool y.done, .string (str y.path), .slice yA y.data.length yc] 33) = w4 at *
      have y0 : w4.cell? ⟨w3.heap.size, 0, none⟩ = some (.int .u8 y.kind) := blk_cell HY3.out 0
      have y1 : w4.cell? ⟨w3.heap.size, 1, none⟩ = some (.int .u8 y.side) := blk_cell HY3.out 1
      have y2 : w4.cell? ⟨w3.heap.size, 2, none⟩ = some (.int .i64 y.n) := blk_cell HY3.out 2
      have y3 : w4.cell? ⟨w3.heap.size, 3, none⟩ = some (.int .u32 y.draw) := blk_cell HY3.out 3
      have y4 : w4.cell? ⟨w3.heap.size, 4, none⟩ = some (.bool y.done) := blk_cell HY3.out 4
      have y5 : w4.cell? ⟨w3.heap.size, 5, none⟩ = some (.string (str y.path)) := blk_cell HY3.out 5
      have y6 : w4.cell? ⟨w3.heap.size, 6, none⟩ = some (.slice yA y.data.length yc) := blk_cell HY3.out 6
      go_wp2_with fail
      refine (text_parsed hll HP.out w4 HBY3.out (HE.out.below HB4.out)).mono ?_
      rintro r w5 ⟨rfl, hb5⟩
      have HB5 : Aside0 (Below w.heap.size w w5) := Aside0.mk (HB4.out.trans (hb5.mono HB4.out.size))
      clear hb5 y0 y1 y2 y3 y4 y5 y6
      go_wp2_with fail
      refine (awake_calls w5 (HE.out.below HB5.out)).mono ?_
      rintro r w7 ⟨rfl, hb7⟩
      have HB7 : Aside0 (Below w.heap.size w w7) := Aside0.mk (HB5.out.trans (hb7.mono HB5.out.size))
      clear hb7
      go_wp2_with fail
      go_ret
      exact ⟨rfl, HB7.out⟩
end Go.Proofs.YtfjjikabinelgaaDoor
