/- Walks of the document's Decode and of the comparison. -/
import Derived.Test.YtfjjikabinelgaaDoorMBase
import Derived.Test.YtfjjikabinelgaaDoorMParse
import Derived.Test.YtfjjikabinelgaaDoorMText
import Derived.Deep.RegionHeld3
import Derived.Deep.QuietTactic
import Derived.BigQuiet
import Derived.Test.YtfjjikabinelgaaDoorPScriptLinesx4
import Derived.Deep.CutBlock
import Derived.Deep.DeepCutAuto
namespace Go.Proofs.YtfjjikabinelgaaDoor
open Go.RowKit Go.Maps Go.Proofs.YtfjjikabinelgaaDoorW.PrintWords Go.Proofs.YtfjjikabinelgaaDoorW.PrintLast Go.Proofs.YtfjjikabinelgaaDoorW.PrintMore Sc PScriptLines
set_option linter.unusedVariables false
set_option linter.unusedSimpArgs false

set_option maxHeartbeats 1000000 in
theorem rbyte_calls {w0 w : World} {v : Value} {l : List UInt8} (h : By w0 v l) (hB : Below w0.heap.size w0 w) :
    Calls Tryd.prog 45 #[.agg #[v]] w fun e w' => ∃ v', e = .returned (.tuple #[.agg #[v'], .int .i64 (one l).1]) ∧ By w0 v' (one l).2 ∧ Below w.heap.size w w' := by
  have HV := Aside0.mk h
  obtain ⟨A, c, rfl, hc, hr⟩ := h
  cases l with
  | nil =>
    clear hr hc
    go_enter Tryd.func45, Tryd.ntmps45
    go_wp2_with fail
    refine bodyPost_ret (v := .tuple #[.agg #[.slice A 0 c], .int .i64 0]) (by first | (simp [results, Tryd.results45, go_sem]; done) | (simp [results, Tryd.results45, go_sem]; rfl)) rfl ?_
    exact ⟨_, rfl, HV.out, ((Below.refl _ _).alloc (Nat.le_refl _) _).alloc (by simp) _⟩
  | cons x r =>
    obtain ⟨ad, rfl, hcell⟩ := C_at hr
    have hx := x.toNat_lt
    have hcw : w.cell? ad = some (.int .u8 x.toNat) := pw_cell_below hB hcell
    have hlt : ad.block < w.heap.size := World.block_lt_of_cell? w ad hcw
    have hnext : By w0 (.slice (if c = 1 then some ad else some (ad.add 1)) r.length (c - 1)) r := by
      have hd := Kd.C_drop (k := Kd.int .u8) (c := c) (m := 1) (xs := ints (x :: r)) (by rw [ints_len]; exact hr) (by simp [ints]) (by rw [ints_len]; exact hc)
      refine ⟨_, _, rfl, by simp at hc; omega, ?_⟩
      have e1 : (ints (x :: r)).drop 1 = ints r := rfl
      rw [e1, ints_len] at hd
      exact hd
    have HN := Aside0.mk hnext
    have HLT := Aside0.mk hlt
    have HCW := Aside0.mk hcw
    clear hr hcw hcell hnext hB hlt
    go_enter Tryd.func45, Tryd.ntmps45
    go_wp2_with fail
    have HB5 : Aside0 (Below w.heap.size w ((w.alloc (.cells #[.slice (some ad) (r.length + 1) c] 55)).alloc (.cells #[.slice none 0 0] 55))) := Aside0.mk (((Below.refl _ _).alloc (Nat.le_refl _) _).alloc (by simp) _)
    have b0 : ((w.alloc (.cells #[.slice (some ad) (r.length + 1) c] 55)).alloc (.cells #[.slice none 0 0] 55)).cell? ⟨w.heap.size, 0, none⟩ = some (.slice (some ad) (r.length + 1) c) := by
      rw [World.cell?_alloc_lt _ _ _ (by simp)]
      exact blk_cell (heap_alloc_new w _) 0
    have b1 : ((w.alloc (.cells #[.slice (some ad) (r.length + 1) c] 55)).alloc (.cells #[.slice none 0 0] 55)).heap[w.heap.size + 1]? = some (.cells #[.slice none 0 0] 55 (0, 0)) := by
      have := heap_alloc_new (w.alloc (.cells #[.slice (some ad) (r.length + 1) c] 55)) (.cells #[.slice none 0 0] 55)
      simp only [World.size_alloc] at this
      exact this
    have hcw : ((w.alloc (.cells #[.slice (some ad) (r.length + 1) c] 55)).alloc (.cells #[.slice none 0 0] 55)).cell? ad = some (.int .u8 x.toNat) := pw_cell_below HB5.out HCW.out
    generalize ((w.alloc (.cells #[.slice (some ad) (r.length + 1) c] 55)).alloc (.cells #[.slice none 0 0] 55)) = w5 at *
    have HB1 := Aside0.mk b1
    have c1 : w5.cell? ⟨w.heap.size + 1, 0, none⟩ = some (.slice none 0 0) := blk_cell b1 0
    have f1 : w5.frozen? ⟨w.heap.size + 1, 0, none⟩ = false := blk_frozen b1 0
    have HALL : Aside0 (∀ W', Below (w.heap.size + 1) w5 W' → W'.cell? ⟨w.heap.size, 0, none⟩ = some (.slice (some ad) (r.length + 1) c) ∧ W'.cell? ad = some (.int .u8 x.toNat)) := Aside0.mk (fun W' hb => ⟨(hb.cell (by simp)).trans b0, (hb.cell (by have := HLT.out; omega)).trans hcw⟩)
    clear b1
    by_cases hc1 : c = 1
    · have HNC : Aside0 (By w0 (.slice (some ad) r.length 0) r) := Aside0.mk (by have h := HN.out; rw [if_pos hc1] at h; simpa [hc1] using h)
      have hlr : (1 : Int) ≤ (r.length : Int) + 1 := by omega
      have hne : ad.block ≠ w.heap.size + 1 := by have := HLT.out; omega
      have hfar : ∀ u, (w5.setCell ⟨w.heap.size + 1, 0, none⟩ u).cell? ad = some (.int .u8 x.toNat) := fun u => (cell_far hne u).trans hcw
      go_region
      have hz := blk_set HB1.out 0 (.slice (some ad) r.length 0)
      have HB6 : Aside0 (Below w.heap.size w ((w5.setCell ⟨w.heap.size + 1, 0, none⟩ (.slice (some ad) r.length 0)).drew)) := Aside0.mk ((HB5.out.setCell (by simp) _).drew)
      have hz0 : (w5.setCell ⟨w.heap.size + 1, 0, none⟩ (.slice (some ad) r.length 0)).drew.cell? ⟨w.heap.size + 1, 0, none⟩ = some (.slice (some ad) r.length 0) := blk_cell hz 0
      generalize (w5.setCell ⟨w.heap.size + 1, 0, none⟩ (.slice (some ad) r.length 0)).drew = w6 at *
      clear hz hfar b0 c1 f1 hcw
      go_wp2_with fail
      refine bodyPost_ret (v := .tuple #[.agg #[.slice (some ad) r.length 0], .int .i64 x.toNat]) (by first | (simp [results, Tryd.results45, go_sem, hz0]; done) | (simp [results, Tryd.results45, go_sem, hz0]; rfl)) rfl ?_
      exact ⟨_, rfl, HNC.out, HB6.out⟩
    · have HNC : Aside0 (By w0 (.slice (some ⟨ad.block, ad.off + 1, none⟩) r.length (c - 1)) r) := Aside0.mk (by have h := HN.out; rw [if_neg hc1] at h; exact h)
      have hlr : (1 : Int) ≤ (r.length : Int) + 1 := by omega
      have hne : ad.block ≠ w.heap.size + 1 := by have := HLT.out; omega
      have hfar : ∀ u, (w5.setCell ⟨w.heap.size + 1, 0, none⟩ u).cell? ad = some (.int .u8 x.toNat) := fun u => (cell_far hne u).trans hcw
      go_region
      have hz := blk_set HB1.out 0 (.slice (some ⟨ad.block, ad.off + 1, none⟩) r.length (c - 1))
      have HB6 : Aside0 (Below w.heap.size w ((w5.setCell ⟨w.heap.size + 1, 0, none⟩ (.slice (some ⟨ad.block, ad.off + 1, none⟩) r.length (c - 1))).drew)) := Aside0.mk ((HB5.out.setCell (by simp) _).drew)
      have hz0 : (w5.setCell ⟨w.heap.size + 1, 0, none⟩ (.slice (some ⟨ad.block, ad.off + 1, none⟩) r.length (c - 1))).drew.cell? ⟨w.heap.size + 1, 0, none⟩ = some (.slice (some ⟨ad.block, ad.off + 1, none⟩) r.length (c - 1)) := blk_cell hz 0
      generalize (w5.setCell ⟨w.heap.size + 1, 0, none⟩ (.slice (some ⟨ad.block, ad.off + 1, none⟩) r.length (c - 1))).drew = w6 at *
      clear hz hfar b0 c1 f1 hcw
      go_wp2_with fail
      refine bodyPost_ret (v := .tuple #[.agg #[.slice (some ⟨ad.block, ad.off + 1, none⟩) r.length (c - 1)], .int .i64 x.toNat]) (by first | (simp [results, Tryd.results45, go_sem, hz0]; done) | (simp [results, Tryd.results45, go_sem, hz0]; rfl)) rfl ?_
      exact ⟨_, rfl, HNC.out, HB6.out⟩
end Go.Proofs.YtfjjikabinelgaaDoor
namespace Go.Proofs.YtfjjikabinelgaaDoor
open Go.RowKit Go.Maps Go.Proofs.YtfjjikabinelgaaDoorW.PrintWords Go.Proofs.YtfjjikabinelgaaDoorW.PrintLast Go.Proofs.YtfjjikabinelgaaDoorW.PrintMore Sc PScriptLines
set_option linter.unusedVariables false
set_option linter.unusedSimpArgs false
attribute [local go_sem] min_two

section
variable {P : Program} {ops : Array Oper} {o : Oper} {a : Act} {Q : Exit → Act → World → Prop} {Kc : Act → World → Prop}
/-- append([]byte{}, b...), where the order is drawn. -/
theorem step_append_bytes {W : World} (base : Nat) (hw : Region.wanted o (yielded ops a.tmps) = true) (s x : Operand)
    (ho : o.op = .call { callee := .builtin .append, args := #[s, x], argTypes := #[22, 22] }) (ht : P.underlying 22 = some (.slice 5)) (hinfo : (P.info? 5).map (fun i => (i.zero, i.size, i.bytes)) = some (some (.int .u8 0), 1, 1))
    (v : Value) (ys : List Int) (A : Option Addr) (m c : Nat) (hs : a.eval s = v) (hx : a.eval x = .slice A m c) (HO : Kd.R (Kd.int .u8) 5 W base (fun k => base ≤ k) v []) (HR : Kd.C (Kd.int .u8) W A m ys) (hbase : base ≤ W.heap.size) (hl : m ≤ 100)
    (h : ∀ v1 w1, Kd.R (Kd.int .u8) 5 w1 base (fun k => base ≤ k) v1 ys → Below base W w1 → Kc (a.put o.dst v1) w1) :
    if Region.wanted o (yielded ops a.tmps) = true then Oper.wp P o a W Kc Q else Kc (a.put o.dst undef) W := by
  refine Kd.R_append_rows_step (Kd.int .u8) (w0 := W) base hw s x 22 5 (.int .u8 0) 1 ho ht hinfo rfl (by decide) (by decide) v [] ys A m c (fun k => base ≤ k) (fun _ => False) hs hx HO HR (fun y cs hc => hc) (fun _ hk => hk.elim) (fun k hk => Nat.le_trans hbase hk) (Below.refl _ _) hbase (by simp; omega) ?_
  intro v1 w1 h1 h2 _ _
  exact h v1 w1 h1 h2
end

set_option maxHeartbeats 1000000 in
theorem rtext_calls {w0 w : World} {v : Value} {l : List UInt8} (most : Nat) (hm : most ≤ 63) (h : By w0 v l) (hB : Below w0.heap.size w0 w) :
    Calls Tryd.prog 46 #[.agg #[v], .int .i64 most] w fun e w' => ∃ v' u, e = .returned (.tuple #[.agg #[v'], u]) ∧ By w0 v' (txt most l).2 ∧ Kd.R (Kd.int .u8) 5 w' w.heap.size (fun _ => True) u (ints (txt most l).1) ∧ Below w.heap.size w w' := by
  have HV := Aside0.mk h
  have HB := Aside0.mk hB
  clear h hB
  go_enter Tryd.func46, Tryd.ntmps46
  go_wp2_with fail
  refine (rbyte_calls HV.out (HB.out.trans (((Below.refl _ _).alloc HB.out.size _).alloc (Nat.le_trans HB.out.size (by simp)) _))).mono ?_
  rintro e w1 ⟨v1, rfl, hv1, hb1⟩
  have HV1 := Aside0.mk hv1
  obtain ⟨A, c, rfl, hc, hr⟩ := hv1
  have hx0 : ((w.alloc (.cells #[v] 55)).alloc (.cells #[.slice none 0 0] 55)).heap[w.heap.size]? = some (.cells #[v] 55 (0, 0)) := (Below.heap_alloc _ _ _ (by simp)).trans (heap_alloc_new w _)
  have hx1 : ((w.alloc (.cells #[v] 55)).alloc (.cells #[.slice none 0 0] 55)).heap[w.heap.size + 1]? = some (.cells #[.slice none 0 0] 55 (0, 0)) := by
    have := heap_alloc_new (w.alloc (.cells #[v] 55)) (.cells #[.slice none 0 0] 55)
    simp only [World.size_alloc] at this
    exact this
  have hB0 : Below w.heap.size w ((w.alloc (.cells #[v] 55)).alloc (.cells #[.slice none 0 0] 55)) := ((Below.refl _ _).alloc (Nat.le_refl _) _).alloc (by simp) _
  have HX0 : Aside0 (w1.heap[w.heap.size]? = some (.cells #[v] 55 (0, 0))) := Aside0.mk ((hb1.block _ (by simp; omega)).trans hx0)
  have HX1 : Aside0 (w1.heap[w.heap.size + 1]? = some (.cells #[.slice none 0 0] 55 (0, 0))) := Aside0.mk ((hb1.block _ (by simp)).trans hx1)
  have HB1 : Aside0 (Below w.heap.size w w1) := Aside0.mk (hB0.trans (hb1.mono (by simp <;> omega)))
  clear hx0 hx1 hB0 hb1
  have h1l := one_lt l
  have hn : txtN most l = min ((one l).1 % (most + 1)) (one l).2.length := rfl
  generalize hq : (one l).1 = q at *
  generalize hL : (one l).2 = L at *
  generalize hn' : txtN most l = n at *
  have Hq := Aside0.mk hq
  have HL := Aside0.mk hL
  have Hn' := Aside0.mk hn'
  clear hq hL hn'
  obtain ⟨m, hm'⟩ : ∃ m, m = q % (most + 1) := ⟨_, rfl⟩
  have em : (q : Int) % ((most : Int) + 1) = (m : Int) := by rw [hm']; rfl
  rw [← hm'] at hn
  have hm64 : m ≤ most := by have := Nat.mod_lt q (show 0 < most + 1 by omega); omega
  clear hm'
  have hmn : Builtin.min2 (.int .i64 (m : Int)) (.int .i64 (L.length : Int)) = pure (.int .i64 (n : Int)) := by
    rw [min2_int]
    congr 2
    split <;> omega
  have hnl : n ≤ L.length := by omega
  have hn64 : n ≤ 64 := by omega
  clear hn
  have z0 : w1.cell? ⟨w.heap.size, 0, none⟩ = some v := blk_cell HX0.out 0
  have f0 : w1.frozen? ⟨w.heap.size, 0, none⟩ = false := blk_frozen HX0.out 0
  have HR := Aside0.mk hr
  clear hr
  go_upto_region 2 with fail
  have hX0 := blk_set HX0.out 0 (.slice A L.length c)
  have hX1 := blk_far HX1.out (p := ⟨w.heap.size, 0, none⟩) (by simp) (.slice A L.length c)
  have HB2 : Aside0 (Below w.heap.size w (w1.setCell ⟨w.heap.size, 0, none⟩ (.slice A L.length c))) := Aside0.mk (HB1.out.setCell (Nat.le_refl _) _)
  clear z0 f0
  generalize w1.setCell ⟨w.heap.size, 0, none⟩ (.slice A L.length c) = w2 at *
  have HY0 : Aside0 (w2.heap[w.heap.size]? = some (.cells #[.slice A L.length c] 55 (0, 0))) := Aside0.mk hX0
  have HY1 : Aside0 (w2.heap[w.heap.size + 1]? = some (.cells #[.slice none 0 0] 55 (0, 0))) := Aside0.mk hX1
  have z0 : w2.cell? ⟨w.heap.size, 0, none⟩ = some (.slice A L.length c) := blk_cell hX0 0
  clear hX0 hX1 HX0 HX1 HB1
  go_quiet (fail)
  have HB3 : Aside0 (Below w.heap.size w (w2.drewN nq)) := Aside0.mk (pw_below_drewN HB2.out nq)
  have hY0 : (w2.drewN nq).heap[w.heap.size]? = some (.cells #[.slice A L.length c] 55 (0, 0)) := HY0.out
  have hY1 : (w2.drewN nq).heap[w.heap.size + 1]? = some (.cells #[.slice none 0 0] 55 (0, 0)) := HY1.out
  clear z0 em hmn hm64 HY0 HY1 HB2
  generalize w2.drewN nq = w3 at *
  have z0 : w3.cell? ⟨w.heap.size, 0, none⟩ = some (.slice A L.length c) := blk_cell hY0 0
  have z1 : w3.cell? ⟨w.heap.size + 1, 0, none⟩ = some (.slice none 0 0) := blk_cell hY1 0
  have f1 : w3.frozen? ⟨w.heap.size + 1, 0, none⟩ = false := blk_frozen hY1 0
  have HALL : Aside0 (∀ W', Below (w.heap.size + 1) w3 W' → W'.cell? ⟨w.heap.size, 0, none⟩ = some (.slice A L.length c)) := Aside0.mk (fun W' hb => (hb.cell (by simp)).trans z0)
  have HY0 := Aside0.mk hY0
  have HY1 := Aside0.mk hY1
  have hs3 : w.heap.size + 1 < w3.heap.size := blk_lt hY1
  clear hY0 hY1
  have i0 : (n : Int) ≤ L.length := by omega
  have i1 : (L.length : Int) ≤ c := by omega
  go_upto_region 3 with fail
  have HCR : Aside0 (∀ W', Below w.heap.size w W' → Kd.C (Kd.int .u8) W' A n ((ints L).take n)) := Aside0.mk (fun W' hb => by
    have hr1 := Kd.C_below HR.out (HB.out.trans (hb.mono HB.out.size))
    rw [← ints_len] at hr1
    have h := Kd.C_take (m := n) hr1 (by rw [ints_len]; exact hnl)
    rwa [List.length_take, ints_len, Nat.min_eq_left hnl] at h)
  have HLIT : Aside0 (∀ W' : World, W'.heap.size = w3.heap.size → Kd.R (Kd.int .u8) 5 (W'.alloc (.cells #[] 5)) (w.heap.size + 2) (fun k => w.heap.size + 2 ≤ k) (.slice (some ⟨w3.heap.size, 0, none⟩) 0 0) []) := Aside0.mk (fun W' e => Kd.R_of_own (e ▸ own_lit W' (w.heap.size + 2) 5 .u8 [] (by omega) (by simp)) (fun k hk => by simp [Value.ownBlock] at hk; omega))
  have hdrop : By w0 (.slice (if c = n then A else A.map (·.add (n * 1))) (L.length - n) (c - n)) (txt most l).2 := by
    have e2 : (txt most l).2 = L.drop n := by simp only [txt, HL.out, Hn'.out]
    rw [e2]
    have hd := Kd.C_drop (k := Kd.int .u8) (c := c) (m := n) (xs := ints L) (by rw [ints_len]; exact HR.out) (by rw [ints_len]; exact hnl) (by rw [ints_len]; exact hc)
    rw [← ints_drop, ints_len] at hd
    exact ⟨_, c - n, by rw [List.length_drop]; try rfl, by rw [List.length_drop]; omega, hd⟩
  have HDR := Aside0.mk hdrop
  clear hdrop
  by_cases hcn : c = n
  · have HBY : Aside0 (By w0 (.slice A (L.length - n) 0) (txt most l).2) := Aside0.mk (by have h := HDR.out; rw [if_pos hcn, hcn, Nat.sub_self] at h; exact h)
    go_region_held3 (fun w' => w'.cell? ⟨w.heap.size, 0, none⟩ = some (.slice A L.length c)) (exact HALL.out _ (by repeat (first | exact Below.refl _ _ | exact HA4.out | (refine Below.alloc ?_ (by first | omega | (simp; omega) | (simp; done)) _) | apply pw_below_drewN | apply below_drew1 | (refine Below.setCell ?_ (by simp) _)))) (first | (refine step_append_bytes (w.heap.size + 2) (by rfl) (.tmp 25) (.tmp 29) rfl Tryd.underlying22 info5 (.slice (some ⟨w3.heap.size, 0, none⟩) 0 0) ((ints L).take n) A n _ rfl rfl ?aO ?aC ?aB (by omega) ?_; (case aO => first | exact HLIT.out _ rfl | exact HLIT.out _ (by simp [World.setCell]) | exact Kd.R_far (HLIT.out _ rfl) (fun k hk => by simp; omega) _); (case aC => exact HCR.out _ (by repeat (first | exact HB3.out | (refine Below.alloc ?_ (by first | omega | (simp; omega) | (simp; done)) _) | apply pw_below_drewN | apply below_drew1 | (refine Below.setCell ?_ (by simp) _)))); (case aB => first | omega | (simp; omega) | (simp [World.setCell]; omega)); intro v4 w4 hR4 hb4; have HR4 := Aside0.mk hR4; have HA4 : Aside0 (Below (w.heap.size + 1) w3 w4) := Aside0.mk (Below.trans (by repeat (first | exact Below.refl _ _ | exact HA4.out | (refine Below.alloc ?_ (by first | omega | (simp; omega) | (simp; done)) _) | apply pw_below_drewN | apply below_drew1 | (refine Below.setCell ?_ (by simp) _))) (hb4.mono (by omega))); (try (have c4 : w4.cell? ⟨w.heap.size + 1, 0, none⟩ = some (.slice none 0 0) := (hb4.cell (by simp)).trans ((World.cell?_alloc_lt _ _ _ (by simpa using hs3)).trans z1))); (try (have f4 : w4.frozen? ⟨w.heap.size + 1, 0, none⟩ = false := (hb4.frozen (by simp)).trans ((World.frozen?_alloc_old _ _ _ (by simp; omega)).trans f1))); clear hR4))
    all_goals
      have hz0 : (w4.setCell ⟨w.heap.size + 1, 0, none⟩ (.slice A (L.length - n) 0)).cell? ⟨w.heap.size + 1, 0, none⟩ = some (.slice A (L.length - n) 0) := World.cell?_setCell_same _ _ _ c4
      have HRF := Kd.R_lower (base' := w.heap.size) (Kd.R_mono (ok' := fun _ => True) (Kd.R_far HR4.out (p := ⟨w.heap.size + 1, 0, none⟩) (fun k hk => by simp; omega) (.slice A (L.length - n) 0)) (fun _ _ => trivial)) (by omega)
      have HBF : Below w.heap.size w (w4.setCell ⟨w.heap.size + 1, 0, none⟩ (.slice A (L.length - n) 0)) := (HB3.out.trans (HA4.out.mono (by omega))).setCell (by simp) _
      have HRFA := Aside0.mk HRF
      have HBFA := Aside0.mk HBF
      clear HRF HBF c4 f4
      generalize w4.setCell ⟨w.heap.size + 1, 0, none⟩ (.slice A (L.length - n) 0) = w6 at *
      go_wp2_with fail
      refine bodyPost_ret (v := .tuple #[.agg #[.slice A (L.length - n) 0], v4]) (by first | (simp [results, Tryd.results46, go_sem, hz0]; done) | (simp [results, Tryd.results46, go_sem, hz0]; rfl)) rfl ?_
      refine ⟨_, _, rfl, HBY.out, ?_, HBFA.out⟩
      have e1 : (txt most l).1 = L.take n := by simp only [txt, HL.out, Hn'.out]
      rw [e1, ints_take]
      exact HRFA.out
  · have i2 : (n : Int) ≤ c := by omega
    cases A with
    | none =>
      have hL0 : L = [] := by
        rcases Nat.eq_zero_or_pos L.length with h | h
        · exact List.eq_nil_of_length_eq_zero h
        · obtain ⟨ad, e, _⟩ := HR.out.2.2 h
          cases e
      subst hL0
      have hn0 : n = 0 := by simpa using hnl
      subst hn0
      have HBY : Aside0 (By w0 (.slice none 0 c) (txt most l).2) := Aside0.mk (by have h := HDR.out; rw [if_neg hcn] at h; simpa using h)
      have hc0 : (0 : Int) ≤ c := by omega
      simp only [List.length_nil] at *
      go_region_held3 (fun w' => w'.cell? ⟨w.heap.size, 0, none⟩ = some (.slice none 0 c)) (exact HALL.out _ (by repeat (first | exact Below.refl _ _ | exact HA4.out | (refine Below.alloc ?_ (by first | omega | (simp; omega) | (simp; done)) _) | apply pw_below_drewN | apply below_drew1 | (refine Below.setCell ?_ (by simp) _)))) (first | (refine step_append_bytes (w.heap.size + 2) (by rfl) (.tmp 25) (.tmp 29) rfl Tryd.underlying22 info5 (.slice (some ⟨w3.heap.size, 0, none⟩) 0 0) [] none 0 _ rfl rfl ?aO ?aC ?aB (by omega) ?_; (case aO => first | exact HLIT.out _ rfl | exact HLIT.out _ (by simp [World.setCell]) | exact Kd.R_far (HLIT.out _ rfl) (fun k hk => by simp; omega) _); (case aC => exact HCR.out _ (by repeat (first | exact HB3.out | (refine Below.alloc ?_ (by first | omega | (simp; omega) | (simp; done)) _) | apply pw_below_drewN | apply below_drew1 | (refine Below.setCell ?_ (by simp) _)))); (case aB => first | omega | (simp; omega) | (simp [World.setCell]; omega)); intro v4 w4 hR4 hb4; have HR4 := Aside0.mk hR4; have HA4 : Aside0 (Below (w.heap.size + 1) w3 w4) := Aside0.mk (Below.trans (by repeat (first | exact Below.refl _ _ | exact HA4.out | (refine Below.alloc ?_ (by first | omega | (simp; omega) | (simp; done)) _) | apply pw_below_drewN | apply below_drew1 | (refine Below.setCell ?_ (by simp) _))) (hb4.mono (by omega))); (try (have c4 : w4.cell? ⟨w.heap.size + 1, 0, none⟩ = some (.slice none 0 0) := (hb4.cell (by simp)).trans ((World.cell?_alloc_lt _ _ _ (by simpa using hs3)).trans z1))); (try (have f4 : w4.frozen? ⟨w.heap.size + 1, 0, none⟩ = false := (hb4.frozen (by simp)).trans ((World.frozen?_alloc_old _ _ _ (by simp; omega)).trans f1))); clear hR4))
      all_goals
        have hz0 : (w4.setCell ⟨w.heap.size + 1, 0, none⟩ (.slice none 0 c)).cell? ⟨w.heap.size + 1, 0, none⟩ = some (.slice none 0 c) := World.cell?_setCell_same _ _ _ c4
        have HRF := Kd.R_lower (base' := w.heap.size) (Kd.R_mono (ok' := fun _ => True) (Kd.R_far HR4.out (p := ⟨w.heap.size + 1, 0, none⟩) (fun k hk => by simp; omega) (.slice none 0 c)) (fun _ _ => trivial)) (by omega)
        have HBF : Below w.heap.size w (w4.setCell ⟨w.heap.size + 1, 0, none⟩ (.slice none 0 c)) := (HB3.out.trans (HA4.out.mono (by omega))).setCell (by simp) _
        have HRFA := Aside0.mk HRF
        have HBFA := Aside0.mk HBF
        clear HRF HBF c4 f4
        generalize w4.setCell ⟨w.heap.size + 1, 0, none⟩ (.slice none 0 c) = w6 at *
        go_wp2_with fail
        refine bodyPost_ret (v := .tuple #[.agg #[.slice none 0 c], v4]) (by first | (simp [results, Tryd.results46, go_sem, hz0]; done) | (simp [results, Tryd.results46, go_sem, hz0]; rfl)) rfl ?_
        refine ⟨_, _, rfl, HBY.out, ?_, HBFA.out⟩
        have e1 : (txt most l).1 = [] := by simp only [txt, HL.out, Hn'.out]; rfl
        rw [e1]
        exact HRFA.out
    | some ad =>
      have HBY : Aside0 (By w0 (.slice (some (ad.add n)) (L.length - n) (c - n)) (txt most l).2) := Aside0.mk (by have h := HDR.out; rw [if_neg hcn] at h; simpa using h)
      go_region_held3 (fun w' => w'.cell? ⟨w.heap.size, 0, none⟩ = some (.slice (some ad) L.length c)) (exact HALL.out _ (by repeat (first | exact Below.refl _ _ | exact HA4.out | (refine Below.alloc ?_ (by first | omega | (simp; omega) | (simp; done)) _) | apply pw_below_drewN | apply below_drew1 | (refine Below.setCell ?_ (by simp) _)))) (first | (refine step_append_bytes (w.heap.size + 2) (by rfl) (.tmp 25) (.tmp 29) rfl Tryd.underlying22 info5 (.slice (some ⟨w3.heap.size, 0, none⟩) 0 0) ((ints L).take n) (some ad) n _ rfl rfl ?aO ?aC ?aB (by omega) ?_; (case aO => first | exact HLIT.out _ rfl | exact HLIT.out _ (by simp [World.setCell]) | exact Kd.R_far (HLIT.out _ rfl) (fun k hk => by simp; omega) _); (case aC => exact HCR.out _ (by repeat (first | exact HB3.out | (refine Below.alloc ?_ (by first | omega | (simp; omega) | (simp; done)) _) | apply pw_below_drewN | apply below_drew1 | (refine Below.setCell ?_ (by simp) _)))); (case aB => first | omega | (simp; omega) | (simp [World.setCell]; omega)); intro v4 w4 hR4 hb4; have HR4 := Aside0.mk hR4; have HA4 : Aside0 (Below (w.heap.size + 1) w3 w4) := Aside0.mk (Below.trans (by repeat (first | exact Below.refl _ _ | exact HA4.out | (refine Below.alloc ?_ (by first | omega | (simp; omega) | (simp; done)) _) | apply pw_below_drewN | apply below_drew1 | (refine Below.setCell ?_ (by simp) _))) (hb4.mono (by omega))); (try (have c4 : w4.cell? ⟨w.heap.size + 1, 0, none⟩ = some (.slice none 0 0) := (hb4.cell (by simp)).trans ((World.cell?_alloc_lt _ _ _ (by simpa using hs3)).trans z1))); (try (have f4 : w4.frozen? ⟨w.heap.size + 1, 0, none⟩ = false := (hb4.frozen (by simp)).trans ((World.frozen?_alloc_old _ _ _ (by simp; omega)).trans f1))); clear hR4))
      all_goals
        have hz0 : (w4.setCell ⟨w.heap.size + 1, 0, none⟩ (.slice (some (ad.add n)) (L.length - n) (c - n))).cell? ⟨w.heap.size + 1, 0, none⟩ = some (.slice (some (ad.add n)) (L.length - n) (c - n)) := World.cell?_setCell_same _ _ _ c4
        have HRF := Kd.R_lower (base' := w.heap.size) (Kd.R_mono (ok' := fun _ => True) (Kd.R_far HR4.out (p := ⟨w.heap.size + 1, 0, none⟩) (fun k hk => by simp; omega) (.slice (some (ad.add n)) (L.length - n) (c - n))) (fun _ _ => trivial)) (by omega)
        have HBF : Below w.heap.size w (w4.setCell ⟨w.heap.size + 1, 0, none⟩ (.slice (some (ad.add n)) (L.length - n) (c - n))) := (HB3.out.trans (HA4.out.mono (by omega))).setCell (by simp) _
        have HRFA := Aside0.mk HRF
        have HBFA := Aside0.mk HBF
        clear HRF HBF c4 f4
        generalize w4.setCell ⟨w.heap.size + 1, 0, none⟩ (.slice (some (ad.add n)) (L.length - n) (c - n)) = w6 at *
        go_wp2_with fail
        refine bodyPost_ret (v := .tuple #[.agg #[.slice (some (ad.add n)) (L.length - n) (c - n)], v4]) (by first | (simp [results, Tryd.results46, go_sem, hz0]; done) | (simp [results, Tryd.results46, go_sem, hz0]; rfl)) rfl ?_
        refine ⟨_, _, rfl, HBY.out, ?_, HBFA.out⟩
        have e1 : (txt most l).1 = L.take n := by simp only [txt, HL.out, Hn'.out]
        rw [e1, ints_take]
        exact HRFA.out
end Go.Proofs.YtfjjikabinelgaaDoor
namespace Go.Proofs.YtfjjikabinelgaaDoor
open Go.RowKit Go.Maps Go.Proofs.YtfjjikabinelgaaDoorW.PrintWords Go.Proofs.YtfjjikabinelgaaDoorW.PrintLast Go.Proofs.YtfjjikabinelgaaDoorW.PrintMore Sc PScriptLines
set_option linter.unusedVariables false
set_option linter.unusedSimpArgs false

def s32 (x : Stp) : S32 := ⟨x.kind, x.side, x.n, x.draw, x.done, str x.path, ints x.data⟩

/-- How the reader's blocks lie: the reader b, its result, the step's result, the step x. -/
structure RS (w0 W : World) (x : Nat) (w : World) (l : List UInt8) (cs : Array Value) : Prop where
  rd : ∃ A c, w.heap[W.heap.size]? = some (.cells #[.slice A l.length c] 55 (0, 0)) ∧ By w0 (.slice A l.length c) l
  r1 : w.heap[W.heap.size + 1]? = some (.cells #[.slice none 0 0] 55 (0, 0))
  r2 : w.heap[W.heap.size + 2]? = some (.cells zero33 32 (0, 0))
  xb : w.heap[x]? = some (.cells cs 32 (0, 0))
  bel : Below W.heap.size W w
  gx : W.heap.size + 2 < x

theorem RS.below {w0 W w w2 : World} {x : Nat} {l : List UInt8} {cs : Array Value} (H : RS w0 W x w l cs) (hb : Below w.heap.size w w2) : RS w0 W x w2 l cs := by
  obtain ⟨A, c, h1, h2⟩ := H.rd
  exact ⟨⟨A, c, (hb.block _ (blk_lt h1)).trans h1, h2⟩, (hb.block _ (blk_lt H.r1)).trans H.r1, (hb.block _ (blk_lt H.r2)).trans H.r2, (hb.block _ (blk_lt H.xb)).trans H.xb, H.bel.trans (hb.mono H.bel.size), H.gx⟩
theorem RS.put {w0 W w : World} {x : Nat} {l : List UInt8} {cs : Array Value} (H : RS w0 W x w l cs) (j : Nat) (u : Value) : RS w0 W x (w.setCell ⟨x, j, none⟩ u) l (cs.setIfInBounds j u) := by
  obtain ⟨A, c, h1, h2⟩ := H.rd
  have e2 := H.gx
  exact ⟨⟨A, c, blk_far h1 (by simp; omega) u, h2⟩, blk_far H.r1 (by simp; omega) u, blk_far H.r2 (by simp; omega) u, blk_set H.xb j u, H.bel.setCell (by simp; omega) u, H.gx⟩
theorem RS.rest {w0 W w : World} {x : Nat} {l l2 : List UInt8} {cs : Array Value} {v : Value} (H : RS w0 W x w l cs) (hv : By w0 v l2) : RS w0 W x (w.setCell ⟨W.heap.size, 0, none⟩ v) l2 cs := by
  obtain ⟨A, c, h1, h2⟩ := H.rd
  have e2 := H.gx
  obtain ⟨A', c', rfl, h3, h4⟩ := hv
  exact ⟨⟨A', c', blk_set h1 0 _, A', c', rfl, h3, h4⟩, blk_far H.r1 (by simp) _, blk_far H.r2 (by simp) _, blk_far H.xb (by simp; omega) _, H.bel.setCell (Nat.le_refl _) _, H.gx⟩

theorem put7_any {w : World} {r t : Nat} (h : w.heap[r]? = some (.cells zero33 t (0, 0))) (a b c d e f g : Value) : (put7 w r a b c d e f g).heap[r]? = some (.cells #[a, b, c, d, e, f, g] t (0, 0)) :=
  blk_set (blk_set (blk_set (blk_set (blk_set (blk_set (blk_set h 0 a) 1 b) 2 c) 3 d) 4 e) 5 f) 6 g
/-- What is left to be read at the end. -/
structure RE (W : World) (rv a b c d e f u : Value) (xs : List Int) (w' : World) : Prop where
  r1 : w'.heap[W.heap.size + 1]? = some (.cells #[rv] 55 (0, 0))
  r2 : w'.heap[W.heap.size + 1 + 1]? = some (.cells #[a, b, c, d, e, f, u] 32 (0, 0))
  bel : Below W.heap.size W w'
  row : Kd.R (Kd.int .u8) 5 w' W.heap.size (fun _ => True) u xs
theorem rend1 {w0 W wc : World} {x : Nat} {l : List UInt8} {cs : Array Value} {u : Value} {xs : List Int} (H : RS w0 W x wc l cs) (hR : Kd.R (Kd.int .u8) 5 wc W.heap.size (fun j => W.heap.size + 2 < j ∧ j ≠ x) u xs) (rv a b c d e f : Value) :
    RE W rv a b c d e f u xs (put7 (wc.setCell ⟨W.heap.size + 1, 0, none⟩ rv) (W.heap.size + 1 + 1) a b c d e f u).drew := by
  have h1 : (put7 (wc.setCell ⟨W.heap.size + 1, 0, none⟩ rv) (W.heap.size + 1 + 1) a b c d e f u).heap[W.heap.size + 1]? = some (.cells #[rv] 55 (0, 0)) := by
    rw [put7_far (by omega)]
    exact blk_set H.r1 0 rv
  have h2 : (put7 (wc.setCell ⟨W.heap.size + 1, 0, none⟩ rv) (W.heap.size + 1 + 1) a b c d e f u).heap[W.heap.size + 1 + 1]? = some (.cells #[a, b, c, d, e, f, u] 32 (0, 0)) := by
    refine put7_any ?_ a b c d e f u
    exact blk_far H.r2 (by simp) rv
  have h3 : Below W.heap.size W (put7 (wc.setCell ⟨W.heap.size + 1, 0, none⟩ rv) (W.heap.size + 1 + 1) a b c d e f u) := put7_below (H.bel.setCell (by simp) rv) (by omega) a b c d e f u
  have h4 : ∀ j, W.heap.size + 2 < j → (put7 (wc.setCell ⟨W.heap.size + 1, 0, none⟩ rv) (W.heap.size + 1 + 1) a b c d e f u).heap[j]? = wc.heap[j]? := by
    intro j hj
    rw [put7_far (by omega), Below.heap_setCell _ _ _ _ (by simp; omega)]
  generalize put7 (wc.setCell ⟨W.heap.size + 1, 0, none⟩ rv) (W.heap.size + 1 + 1) a b c d e f u = w9 at *
  exact ⟨h1, h2, h3.drew, Kd.R_mono (Kd.R_step (w1 := w9.drew) hR (fun j hj _ => h4 j hj.1)) (fun _ _ => trivial)⟩
theorem ne_two (n : Nat) : (n + 1 + 1 = n) = False := by simp only [eq_iff_iff, iff_false]; omega
theorem rsided_calls (k : Nat) (hk : k ≤ 9) (w : World) : Calls Tryd.prog 30 #[.int .u8 k] w fun e w' => e = .returned (.bool (sided k)) ∧ Below w.heap.size w w' := by
  have hf : sumpterref34_sided.f k = some (sided k) := by
    have hcase : k = 0 ∨ k = 1 ∨ k = 2 ∨ k = 3 ∨ k = 4 ∨ k = 5 ∨ k = 6 ∨ k = 7 ∨ k = 8 ∨ k = 9 := by omega
    rcases hcase with rfl | rfl | rfl | rfl | rfl | rfl | rfl | rfl | rfl | rfl <;> decide
  refine (sumpterref34_sided.calls k (sided k) w hf).mono ?_
  rintro e w' ⟨rfl, hd⟩
  exact ⟨rfl, hd.below⟩

set_option maxHeartbeats 4000000 in
set_option maxRecDepth 100000 in
theorem rstep_calls {w0 w : World} {v : Value} {l : List UInt8} (h : By w0 v l) (hB : Below w0.heap.size w0 w) :
    Calls Tryd.prog 20 #[.agg #[v]] w fun e w' => ∃ v' cs, e = .returned (.tuple #[.agg #[v'], .agg cs]) ∧ By w0 v' (Sc.step l).2 ∧ Below w.heap.size w w' ∧ k32.M w' w.heap.size (fun _ => True) (s32 (Sc.step l).1) cs.toList := by
  have HV := Aside0.mk h
  have HB := Aside0.mk hB
  clear h hB
  go_enter Tryd.func20, Tryd.ntmps20
  go_wp2_with fail
  have hB0 : Below w.heap.size w (((w.alloc (.cells #[v] 55)).alloc (.cells #[.slice none 0 0] 55)).alloc (.cells #[.int .u8 0, .int .u8 0, .int .i64 0, .int .u32 0, .bool false, .string ⟨#[]⟩, .slice none 0 0] 32)) := (((Below.refl _ _).alloc (Nat.le_refl _) _).alloc (by simp) _).alloc (by simp; omega) _
  have hx0 : (((w.alloc (.cells #[v] 55)).alloc (.cells #[.slice none 0 0] 55)).alloc (.cells #[.int .u8 0, .int .u8 0, .int .i64 0, .int .u32 0, .bool false, .string ⟨#[]⟩, .slice none 0 0] 32)).heap[w.heap.size]? = some (.cells #[v] 55 (0, 0)) := by
    rw [Below.heap_alloc _ _ _ (by simp; omega), Below.heap_alloc _ _ _ (by simp)]
    exact heap_alloc_new w _
  have hx1 : (((w.alloc (.cells #[v] 55)).alloc (.cells #[.slice none 0 0] 55)).alloc (.cells #[.int .u8 0, .int .u8 0, .int .i64 0, .int .u32 0, .bool false, .string ⟨#[]⟩, .slice none 0 0] 32)).heap[w.heap.size + 1]? = some (.cells #[.slice none 0 0] 55 (0, 0)) := by
    rw [Below.heap_alloc _ _ _ (by simp)]
    have := heap_alloc_new (w.alloc (.cells #[v] 55)) (.cells #[.slice none 0 0] 55)
    simp only [World.size_alloc] at this
    exact this
  have hx2 : (((w.alloc (.cells #[v] 55)).alloc (.cells #[.slice none 0 0] 55)).alloc (.cells #[.int .u8 0, .int .u8 0, .int .i64 0, .int .u32 0, .bool false, .string ⟨#[]⟩, .slice none 0 0] 32)).heap[w.heap.size + 2]? = some (.cells zero33 32 (0, 0)) := by
    have := heap_alloc_new ((w.alloc (.cells #[v] 55)).alloc (.cells #[.slice none 0 0] 55)) (.cells zero33 32)
    simp only [World.size_alloc] at this
    exact this
  refine (rbyte_calls HV.out (HB.out.trans (hB0.mono HB.out.size))).mono ?_
  rintro e w1 ⟨v1, rfl, hv1, hb1⟩
  have hsz : (((w.alloc (.cells #[v] 55)).alloc (.cells #[.slice none 0 0] 55)).alloc (.cells #[.int .u8 0, .int .u8 0, .int .i64 0, .int .u32 0, .bool false, .string ⟨#[]⟩, .slice none 0 0] 32)).heap.size = w.heap.size + 3 := by simp
  have HX0 : Aside0 (w1.heap[w.heap.size]? = some (.cells #[v] 55 (0, 0))) := Aside0.mk ((hb1.block _ (by omega)).trans hx0)
  have HX1 : Aside0 (w1.heap[w.heap.size + 1]? = some (.cells #[.slice none 0 0] 55 (0, 0))) := Aside0.mk ((hb1.block _ (by omega)).trans hx1)
  have HX2 : Aside0 (w1.heap[w.heap.size + 2]? = some (.cells zero33 32 (0, 0))) := Aside0.mk ((hb1.block _ (by omega)).trans hx2)
  have HB1 : Aside0 (Below w.heap.size w w1) := Aside0.mk (hB0.trans (hb1.mono (by omega)))
  have HS1 : Aside0 (w.heap.size + 3 ≤ w1.heap.size) := Aside0.mk (by have := hb1.size; omega)
  have HV1 := Aside0.mk hv1
  clear hx0 hx1 hx2 hB0 hb1 hsz hv1
  have hk := one_lt l
  obtain ⟨res, hres⟩ : ∃ res, res = stepS (one l).1 (one l).2 := ⟨_, rfl⟩
  have HRES : Aside0 (Sc.step l = res ∧ res = stepS (one l).1 (one l).2) := Aside0.mk ⟨by rw [hres]; exact (stepS_eq _ _).symm, hres⟩
  clear hres
  generalize (one l).1 = k at *
  generalize (one l).2 = l1 at *
  obtain ⟨kk, hkk⟩ : ∃ kk, kk = k % 10 := ⟨_, rfl⟩
  have em : (k : Int) % 10 = (kk : Int) := by rw [hkk]; rfl
  obtain ⟨dd, hdd⟩ : ∃ dd, dd = k / 20 % 2 := ⟨_, rfl⟩
  have em3 : (k : Int) / 20 % 2 = (dd : Int) := by rw [hdd]; rfl
  have hd1 : dd = 0 ∨ dd = 1 := by omega
  have hk9 : kk ≤ 9 := by omega
  have HKK := Aside0.mk hkk
  have HDD := Aside0.mk hdd
  clear hkk hdd
  have z0 : w1.cell? ⟨w.heap.size, 0, none⟩ = some v := blk_cell HX0.out 0
  have f0 : w1.frozen? ⟨w.heap.size, 0, none⟩ = false := blk_frozen HX0.out 0
  obtain ⟨A1, c1, rfl, _, _⟩ := HV1.out
  go_upto_region 2 with fail
  have hX0 := blk_set HX0.out 0 (.slice A1 l1.length c1)
  have hX1 := blk_far HX1.out (p := ⟨w.heap.size, 0, none⟩) (by simp) (.slice A1 l1.length c1)
  have hX2 := blk_far HX2.out (p := ⟨w.heap.size, 0, none⟩) (by simp) (.slice A1 l1.length c1)
  have hB2 : Below w.heap.size w (w1.setCell ⟨w.heap.size, 0, none⟩ (.slice A1 l1.length c1)) := HB1.out.setCell (Nat.le_refl _) _
  have hS2 : w.heap.size + 3 ≤ (w1.setCell ⟨w.heap.size, 0, none⟩ (.slice A1 l1.length c1)).heap.size := by simpa [World.setCell] using HS1.out
  clear z0 f0
  generalize w1.setCell ⟨w.heap.size, 0, none⟩ (.slice A1 l1.length c1) = w2 at *
  have HP2 := Aside0.mk (show _ ∧ _ ∧ _ ∧ _ ∧ _ from ⟨hX0, hX1, hX2, hB2, hS2⟩)
  clear hX0 hX1 hX2 hB2 hS2 HX0 HX1 HX2 HB1 HS1
  have hs7 : ((kk : Int) == 7) = k7 kk := by
    unfold k7
    by_cases h : kk = 7
    · subst h; rfl
    · rw [decide_eq_false h, beq_eq_false_iff_ne]; omega
  go_cut [5] (fun v5 wc => ∃ x, v5 = .pointer (some ⟨x, 0, none⟩) ∧ Aside0 (RS w0 w x wc l1 (cells7 kk 0 0 0 (dDone k kk) [] (.slice none 0 0))))
  case first =>
    have hrs : ∀ b : Bool, RS w0 w w2.heap.size (w2.alloc (.cells #[.int .u8 kk, .int .u8 0, .int .i64 0, .int .u32 0, .bool b, .string ⟨#[]⟩, .slice none 0 0] 32)) l1 (cells7 kk 0 0 0 b [] (.slice none 0 0)) := fun b => by
      obtain ⟨g0, g1, g2, g3, g4⟩ := HP2.out
      exact ⟨⟨A1, c1, (Below.heap_alloc _ _ _ (by omega)).trans g0, HV1.out⟩, (Below.heap_alloc _ _ _ (by omega)).trans g1, (Below.heap_alloc _ _ _ (by omega)).trans g2, heap_alloc_new w2 _, g3.alloc g3.size _, by omega⟩
    have HRS := Aside0.mk hrs
    clear hrs
    rcases hd1 with rfl | rfl
    · have ed : dDone k kk = false := by unfold dDone; rw [← HDD.out]; simp
      have HED := Aside0.mk ed
      clear ed
      go_wp2_with fail
      go_meet
      rw [HED.out]
      exact ⟨_, rfl, Aside0.mk (HRS.out false)⟩
    · have ed : dDone k kk = k7 kk := by unfold dDone; rw [← HDD.out]; simp
      have HED := Aside0.mk ed
      clear ed
      go_wp2_with fail
      go_meet
      rw [HED.out]
      exact ⟨_, rfl, Aside0.mk (HRS.out (k7 kk))⟩
  case rest =>
    obtain ⟨x, rfl, HRS⟩ := hcut
    clear HP2 em3 hd1 hs7
    have xk : wc.cell? ⟨x, 0, none⟩ = some (.int .u8 kk) := blk_cell HRS.out.xb 0
    go_upto_if 28 with (go_at_call 30; refine (rsided_calls kk hk9 _).mono ?_; rintro e w3 ⟨rfl, hb3⟩; have HR3 := Aside0.mk (HRS.out.below hb3); clear hb3)
    clear xk HRS
    obtain ⟨sd, hsd⟩ : ∃ sd, sd = k / 10 % 2 := ⟨_, rfl⟩
    have em2 : (k : Int) / 10 % 2 = (sd : Int) := by rw [hsd]; rfl
    have hsd1 : sd ≤ 1 := by omega
    have HSD := Aside0.mk hsd
    clear hsd
    generalize hve : dDone k kk = ve at *
    have HVE := Aside0.mk hve
    clear hve
    go_cut [] (fun wc => Aside0 (RS w0 w x wc l1 (cells7 kk (dSide k kk) 0 0 ve [] (.slice none 0 0))))
    case first =>
      have f1 : w3.frozen? ⟨x, 1, none⟩ = false := blk_frozen HR3.out.xb 1
      have z1 : w3.cell? ⟨x, 1, none⟩ = some (.int .u8 0) := blk_cell HR3.out.xb 1
      by_cases hs : sided kk = true
      · have HS' := Aside0.mk hs
        rw [hs]
        clear hs
        go_wp2_with fail
        go_meet
        have e1 : dSide k kk = sd := by rw [HSD.out]; exact if_pos HS'.out
        rw [e1]
        exact Aside0.mk (HR3.out.put 1 _)
      · have hs' : sided kk = false := by simpa using hs
        have HS' := Aside0.mk hs'
        rw [hs']
        clear hs hs'
        go_wp2_with fail
        go_meet
        have e1 : dSide k kk = 0 := if_neg (by rw [HS'.out]; decide)
        rw [e1]
        exact HR3
    case rest =>
      clear HR3 em2 hsd1
      generalize hvs : dSide k kk = v1 at *
      have HVS := Aside0.mk hvs
      clear hvs
      have xk : wc.cell? ⟨x, 0, none⟩ = some (.int .u8 kk) := blk_cell hcut.out.xb 0
      go_upto_block 0 with fail
      have HRS := hcut
      clear hcut
      go_cut [] (fun wc => ∃ A c, Aside0 (RS w0 w x wc res.2 (cells7 kk v1 res.1.n res.1.draw ve res.1.path (.slice A res.1.data.length c))) ∧ Aside0 (Kd.R (Kd.int .u8) 5 wc w.heap.size (fun j => w.heap.size + 2 < j ∧ j ≠ x) (.slice A res.1.data.length c) (ints res.1.data)))
      case first =>
        have hcase : kk = 0 ∨ kk = 1 ∨ kk = 2 ∨ kk = 3 ∨ kk = 4 ∨ kk = 5 ∨ kk = 6 ∨ kk = 7 ∨ kk = 8 ∨ kk = 9 := by omega
        rcases hcase with rfl | rfl | rfl | rfl | rfl | rfl | rfl | rfl | rfl | rfl
        · obtain ⟨Ab0, cb0, hb0, hbv⟩ := HRS.out.rd
          have b0 : wc.cell? ⟨w.heap.size, 0, none⟩ = some (.slice Ab0 l1.length cb0) := blk_cell hb0 0
          have HBV := Aside0.mk hbv
          clear hb0 hbv
          go_wp2_with fail
          refine (rbyte_calls HBV.out (HB.out.trans (HRS.out.bel.mono HB.out.size))).mono ?_
          rintro e w10 ⟨vv, rfl, hvv, hbb⟩
          have H4 := Aside0.mk (HRS.out.below hbb)
          have HVV := Aside0.mk hvv
          have hbnd0 := one_lt l1
          clear b0 hbb HBV
          generalize ho1 : (one l1).1 = nn0 at *
          generalize ho2 : (one l1).2 = lr0 at *
          have HO1_0 := Aside0.mk ho1
          have HO2_0 := Aside0.mk ho2
          clear ho1 ho2
          obtain ⟨A2, c2, rfl, _, _⟩ := hvv
          obtain ⟨A0, c0, hb0, _⟩ := H4.out.rd
          have z0 : w10.cell? ⟨w.heap.size, 0, none⟩ = some (.slice A0 l1.length c0) := blk_cell hb0 0
          have f0 : w10.frozen? ⟨w.heap.size, 0, none⟩ = false := blk_frozen hb0 0
          clear hb0
          obtain ⟨m0, hm0⟩ : ∃ m0, m0 = nn0 % 65 := ⟨_, rfl⟩
          have em0 : (nn0 : Int) % 65 = (m0 : Int) := by rw [hm0]; rfl
          have HM0 := Aside0.mk hm0
          clear hm0
          have z2 : (w10.setCell ⟨w.heap.size, 0, none⟩ (.slice A2 lr0.length c2)).cell? ⟨x, 2, none⟩ = some (.int .i64 0) := blk_cell (H4.out.rest HVV.out).xb 2
          have f2 : (w10.setCell ⟨w.heap.size, 0, none⟩ (.slice A2 lr0.length c2)).frozen? ⟨x, 2, none⟩ = false := blk_frozen (H4.out.rest HVV.out).xb 2
          go_upto_region 14 with fail
          have HY1 := Aside0.mk ((H4.out.rest HVV.out).put 2 (.int .i64 m0))
          clear z0 f0 z2 f2 H4 HVV
          generalize (w10.setCell ⟨w.heap.size, 0, none⟩ (.slice A2 lr0.length c2)).setCell ⟨x, 2, none⟩ (.int .i64 m0) = w31 at *
          obtain ⟨Ab1, cb1, hb0, hbv⟩ := HY1.out.rd
          have b0 : w31.cell? ⟨w.heap.size, 0, none⟩ = some (.slice Ab1 lr0.length cb1) := blk_cell hb0 0
          have HBV := Aside0.mk hbv
          clear hb0 hbv
          go_wp2_with fail
          refine (rbyte_calls HBV.out (HB.out.trans (HY1.out.bel.mono HB.out.size))).mono ?_
          rintro e w11 ⟨vv, rfl, hvv, hbb⟩
          have H4 := Aside0.mk (HY1.out.below hbb)
          have HVV := Aside0.mk hvv
          have hbnd1 := one_lt lr0
          clear b0 hbb HBV
          generalize ho1 : (one lr0).1 = nn1 at *
          generalize ho2 : (one lr0).2 = lr1 at *
          have HO1_1 := Aside0.mk ho1
          have HO2_1 := Aside0.mk ho2
          clear ho1 ho2
          obtain ⟨A2, c2, rfl, _, _⟩ := hvv
          obtain ⟨A0, c0, hb0, _⟩ := H4.out.rd
          have z0 : w11.cell? ⟨w.heap.size, 0, none⟩ = some (.slice A0 lr0.length c0) := blk_cell hb0 0
          have f0 : w11.frozen? ⟨w.heap.size, 0, none⟩ = false := blk_frozen hb0 0
          clear hb0
          have z2 : (w11.setCell ⟨w.heap.size, 0, none⟩ (.slice A2 lr1.length c2)).cell? ⟨x, 3, none⟩ = some (.int .u32 0) := blk_cell (H4.out.rest HVV.out).xb 3
          have f2 : (w11.setCell ⟨w.heap.size, 0, none⟩ (.slice A2 lr1.length c2)).frozen? ⟨x, 3, none⟩ = false := blk_frozen (H4.out.rest HVV.out).xb 3
          go_wp2_with fail
          go_meet
          have hres : res = (⟨0, v1, m0, nn1, ve, [], []⟩, lr1) := by
            rw [HRES.out.2]
            unfold stepS
            rw [← HKK.out, HVS.out, HVE.out]
            simp [dN, dDraw, dPath, dData, lng, hasN, hasD, k0, k9, HM0.out, HO1_0.out, HO2_0.out, HO1_1.out, HO2_1.out]
          rw [hres]
          exact ⟨none, 0, Aside0.mk ((H4.out.rest HVV.out).put 3 (.int .u32 nn1)), Aside0.mk (Kd.R_nil _ _ _ _ _)⟩
        · obtain ⟨Ab0, cb0, hb0, hbv⟩ := HRS.out.rd
          have b0 : wc.cell? ⟨w.heap.size, 0, none⟩ = some (.slice Ab0 l1.length cb0) := blk_cell hb0 0
          have HBV := Aside0.mk hbv
          clear hb0 hbv
          go_wp2_with fail
          refine (rbyte_calls HBV.out (HB.out.trans (HRS.out.bel.mono HB.out.size))).mono ?_
          rintro e w10 ⟨vv, rfl, hvv, hbb⟩
          have H4 := Aside0.mk (HRS.out.below hbb)
          have HVV := Aside0.mk hvv
          have hbnd0 := one_lt l1
          clear b0 hbb HBV
          generalize ho1 : (one l1).1 = nn0 at *
          generalize ho2 : (one l1).2 = lr0 at *
          have HO1_0 := Aside0.mk ho1
          have HO2_0 := Aside0.mk ho2
          clear ho1 ho2
          obtain ⟨A2, c2, rfl, _, _⟩ := hvv
          obtain ⟨A0, c0, hb0, _⟩ := H4.out.rd
          have z0 : w10.cell? ⟨w.heap.size, 0, none⟩ = some (.slice A0 l1.length c0) := blk_cell hb0 0
          have f0 : w10.frozen? ⟨w.heap.size, 0, none⟩ = false := blk_frozen hb0 0
          clear hb0
          have z2 : (w10.setCell ⟨w.heap.size, 0, none⟩ (.slice A2 lr0.length c2)).cell? ⟨x, 2, none⟩ = some (.int .i64 0) := blk_cell (H4.out.rest HVV.out).xb 2
          have f2 : (w10.setCell ⟨w.heap.size, 0, none⟩ (.slice A2 lr0.length c2)).frozen? ⟨x, 2, none⟩ = false := blk_frozen (H4.out.rest HVV.out).xb 2
          go_wp2_with fail
          go_meet
          have hres : res = (⟨1, v1, nn0, 0, ve, [], []⟩, lr0) := by
            rw [HRES.out.2]
            unfold stepS
            rw [← HKK.out, HVS.out, HVE.out]
            simp [dN, dDraw, dPath, dData, lng, hasN, hasD, k0, k9, HO1_0.out, HO2_0.out]
          rw [hres]
          exact ⟨none, 0, Aside0.mk ((H4.out.rest HVV.out).put 2 (.int .i64 nn0)), Aside0.mk (Kd.R_nil _ _ _ _ _)⟩
        · obtain ⟨Ab0, cb0, hb0, hbv⟩ := HRS.out.rd
          have b0 : wc.cell? ⟨w.heap.size, 0, none⟩ = some (.slice Ab0 l1.length cb0) := blk_cell hb0 0
          have HBV := Aside0.mk hbv
          clear hb0 hbv
          go_wp2_with fail
          refine (rbyte_calls HBV.out (HB.out.trans (HRS.out.bel.mono HB.out.size))).mono ?_
          rintro e w10 ⟨vv, rfl, hvv, hbb⟩
          have H4 := Aside0.mk (HRS.out.below hbb)
          have HVV := Aside0.mk hvv
          have hbnd0 := one_lt l1
          clear b0 hbb HBV
          generalize ho1 : (one l1).1 = nn0 at *
          generalize ho2 : (one l1).2 = lr0 at *
          have HO1_0 := Aside0.mk ho1
          have HO2_0 := Aside0.mk ho2
          clear ho1 ho2
          obtain ⟨A2, c2, rfl, _, _⟩ := hvv
          obtain ⟨A0, c0, hb0, _⟩ := H4.out.rd
          have z0 : w10.cell? ⟨w.heap.size, 0, none⟩ = some (.slice A0 l1.length c0) := blk_cell hb0 0
          have f0 : w10.frozen? ⟨w.heap.size, 0, none⟩ = false := blk_frozen hb0 0
          clear hb0
          have z2 : (w10.setCell ⟨w.heap.size, 0, none⟩ (.slice A2 lr0.length c2)).cell? ⟨x, 2, none⟩ = some (.int .i64 0) := blk_cell (H4.out.rest HVV.out).xb 2
          have f2 : (w10.setCell ⟨w.heap.size, 0, none⟩ (.slice A2 lr0.length c2)).frozen? ⟨x, 2, none⟩ = false := blk_frozen (H4.out.rest HVV.out).xb 2
          go_wp2_with fail
          go_meet
          have hres : res = (⟨2, v1, nn0, 0, ve, [], []⟩, lr0) := by
            rw [HRES.out.2]
            unfold stepS
            rw [← HKK.out, HVS.out, HVE.out]
            simp [dN, dDraw, dPath, dData, lng, hasN, hasD, k0, k9, HO1_0.out, HO2_0.out]
          rw [hres]
          exact ⟨none, 0, Aside0.mk ((H4.out.rest HVV.out).put 2 (.int .i64 nn0)), Aside0.mk (Kd.R_nil _ _ _ _ _)⟩
        · obtain ⟨Ab0, cb0, hb0, hbv⟩ := HRS.out.rd
          have b0 : wc.cell? ⟨w.heap.size, 0, none⟩ = some (.slice Ab0 l1.length cb0) := blk_cell hb0 0
          have HBV := Aside0.mk hbv
          clear hb0 hbv
          go_wp2_with fail
          refine (rbyte_calls HBV.out (HB.out.trans (HRS.out.bel.mono HB.out.size))).mono ?_
          rintro e w10 ⟨vv, rfl, hvv, hbb⟩
          have H4 := Aside0.mk (HRS.out.below hbb)
          have HVV := Aside0.mk hvv
          have hbnd0 := one_lt l1
          clear b0 hbb HBV
          generalize ho1 : (one l1).1 = nn0 at *
          generalize ho2 : (one l1).2 = lr0 at *
          have HO1_0 := Aside0.mk ho1
          have HO2_0 := Aside0.mk ho2
          clear ho1 ho2
          obtain ⟨A2, c2, rfl, _, _⟩ := hvv
          obtain ⟨A0, c0, hb0, _⟩ := H4.out.rd
          have z0 : w10.cell? ⟨w.heap.size, 0, none⟩ = some (.slice A0 l1.length c0) := blk_cell hb0 0
          have f0 : w10.frozen? ⟨w.heap.size, 0, none⟩ = false := blk_frozen hb0 0
          clear hb0
          have z2 : (w10.setCell ⟨w.heap.size, 0, none⟩ (.slice A2 lr0.length c2)).cell? ⟨x, 2, none⟩ = some (.int .i64 0) := blk_cell (H4.out.rest HVV.out).xb 2
          have f2 : (w10.setCell ⟨w.heap.size, 0, none⟩ (.slice A2 lr0.length c2)).frozen? ⟨x, 2, none⟩ = false := blk_frozen (H4.out.rest HVV.out).xb 2
          go_wp2_with fail
          go_meet
          have hres : res = (⟨3, v1, nn0, 0, ve, [], []⟩, lr0) := by
            rw [HRES.out.2]
            unfold stepS
            rw [← HKK.out, HVS.out, HVE.out]
            simp [dN, dDraw, dPath, dData, lng, hasN, hasD, k0, k9, HO1_0.out, HO2_0.out]
          rw [hres]
          exact ⟨none, 0, Aside0.mk ((H4.out.rest HVV.out).put 2 (.int .i64 nn0)), Aside0.mk (Kd.R_nil _ _ _ _ _)⟩
        · obtain ⟨Ab0, cb0, hb0, hbv⟩ := HRS.out.rd
          have b0 : wc.cell? ⟨w.heap.size, 0, none⟩ = some (.slice Ab0 l1.length cb0) := blk_cell hb0 0
          have HBV := Aside0.mk hbv
          clear hb0 hbv
          go_wp2_with fail
          refine (rbyte_calls HBV.out (HB.out.trans (HRS.out.bel.mono HB.out.size))).mono ?_
          rintro e w10 ⟨vv, rfl, hvv, hbb⟩
          have H4 := Aside0.mk (HRS.out.below hbb)
          have HVV := Aside0.mk hvv
          have hbnd0 := one_lt l1
          clear b0 hbb HBV
          generalize ho1 : (one l1).1 = nn0 at *
          generalize ho2 : (one l1).2 = lr0 at *
          have HO1_0 := Aside0.mk ho1
          have HO2_0 := Aside0.mk ho2
          clear ho1 ho2
          obtain ⟨A2, c2, rfl, _, _⟩ := hvv
          obtain ⟨A0, c0, hb0, _⟩ := H4.out.rd
          have z0 : w10.cell? ⟨w.heap.size, 0, none⟩ = some (.slice A0 l1.length c0) := blk_cell hb0 0
          have f0 : w10.frozen? ⟨w.heap.size, 0, none⟩ = false := blk_frozen hb0 0
          clear hb0
          have z2 : (w10.setCell ⟨w.heap.size, 0, none⟩ (.slice A2 lr0.length c2)).cell? ⟨x, 2, none⟩ = some (.int .i64 0) := blk_cell (H4.out.rest HVV.out).xb 2
          have f2 : (w10.setCell ⟨w.heap.size, 0, none⟩ (.slice A2 lr0.length c2)).frozen? ⟨x, 2, none⟩ = false := blk_frozen (H4.out.rest HVV.out).xb 2
          go_upto_region 24 with fail
          have HY1 := Aside0.mk ((H4.out.rest HVV.out).put 2 (.int .i64 nn0))
          clear z0 f0 z2 f2 H4 HVV
          generalize (w10.setCell ⟨w.heap.size, 0, none⟩ (.slice A2 lr0.length c2)).setCell ⟨x, 2, none⟩ (.int .i64 nn0) = w31 at *
          obtain ⟨Ab1, cb1, hb0, hbv⟩ := HY1.out.rd
          have b0 : w31.cell? ⟨w.heap.size, 0, none⟩ = some (.slice Ab1 lr0.length cb1) := blk_cell hb0 0
          have HBV := Aside0.mk hbv
          clear hb0 hbv
          go_wp2_with fail
          refine (rtext_calls 15 (by decide) HBV.out (HB.out.trans (HY1.out.bel.mono HB.out.size))).mono ?_
          rintro e w11 ⟨vv, uu, rfl, hvv, hRu, hbb⟩
          have H4 := Aside0.mk (HY1.out.below hbb)
          have HVV := Aside0.mk hvv
          have HLX1 := Aside0.mk (blk_lt HY1.out.xb)
          have HGX1 := Aside0.mk HY1.out.gx
          have HWS1 := Aside0.mk HY1.out.bel.size
          clear b0 hbb HBV
          generalize ho1 : (txt 15 lr0).1 = tt1 at *
          generalize ho2 : (txt 15 lr0).2 = lr1 at *
          have HO1_1 := Aside0.mk ho1
          have HO2_1 := Aside0.mk ho2
          clear ho1 ho2
          obtain ⟨uA1, uc1, rfl⟩ := Kd.R_slice hRu
          rw [ints_len] at hRu ⊢
          have HRU1 := Aside0.mk hRu
          clear hRu
          obtain ⟨A2, c2, rfl, _, _⟩ := hvv
          obtain ⟨A0, c0, hb0, _⟩ := H4.out.rd
          have z0 : w11.cell? ⟨w.heap.size, 0, none⟩ = some (.slice A0 lr0.length c0) := blk_cell hb0 0
          have f0 : w11.frozen? ⟨w.heap.size, 0, none⟩ = false := blk_frozen hb0 0
          clear hb0
          have z2 : (w11.setCell ⟨w.heap.size, 0, none⟩ (.slice A2 lr1.length c2)).cell? ⟨x, 6, none⟩ = some (.slice none 0 0) := blk_cell (H4.out.rest HVV.out).xb 6
          have f2 : (w11.setCell ⟨w.heap.size, 0, none⟩ (.slice A2 lr1.length c2)).frozen? ⟨x, 6, none⟩ = false := blk_frozen (H4.out.rest HVV.out).xb 6
          go_wp2_with fail
          go_meet
          have hres : res = (⟨4, v1, nn0, 0, ve, [], tt1⟩, lr1) := by
            rw [HRES.out.2]
            unfold stepS
            rw [← HKK.out, HVS.out, HVE.out]
            simp [dN, dDraw, dPath, dData, lng, hasN, hasD, k0, k9, HO1_0.out, HO2_0.out, HO1_1.out, HO2_1.out]
          rw [hres]
          refine ⟨uA1, uc1, Aside0.mk ((H4.out.rest HVV.out).put 6 (.slice uA1 tt1.length uc1)), Aside0.mk ?_⟩
          have hq1 := HLX1.out
          have hq2 := HGX1.out
          have hq3 := HWS1.out
          refine Kd.R_lower (Kd.R_mono (Kd.R_step (Kd.R_bound HRU1.out) ?_) ?_) hq3
          · rintro j ⟨_, hj, _⟩ _
            exact (Below.heap_setCell _ _ _ _ (by simp; omega)).trans (Below.heap_setCell _ _ _ _ (by simp; omega))
          · rintro j ⟨_, hj, _⟩
            omega
        · obtain ⟨Ab0, cb0, hb0, hbv⟩ := HRS.out.rd
          have b0 : wc.cell? ⟨w.heap.size, 0, none⟩ = some (.slice Ab0 l1.length cb0) := blk_cell hb0 0
          have HBV := Aside0.mk hbv
          clear hb0 hbv
          go_wp2_with fail
          refine (rtext_calls 63 (by decide) HBV.out (HB.out.trans (HRS.out.bel.mono HB.out.size))).mono ?_
          rintro e w10 ⟨vv, uu, rfl, hvv, hRu, hbb⟩
          have H4 := Aside0.mk (HRS.out.below hbb)
          have HVV := Aside0.mk hvv
          have HLX0 := Aside0.mk (blk_lt HRS.out.xb)
          have HGX0 := Aside0.mk HRS.out.gx
          have HWS0 := Aside0.mk HRS.out.bel.size
          clear b0 hbb HBV
          generalize ho1 : (txt 63 l1).1 = tt0 at *
          generalize ho2 : (txt 63 l1).2 = lr0 at *
          have HO1_0 := Aside0.mk ho1
          have HO2_0 := Aside0.mk ho2
          clear ho1 ho2
          obtain ⟨uA0, uc0, rfl⟩ := Kd.R_slice hRu
          rw [ints_len] at hRu ⊢
          have HRU0 := Aside0.mk hRu
          clear hRu
          obtain ⟨A2, c2, rfl, _, _⟩ := hvv
          obtain ⟨A0, c0, hb0, _⟩ := H4.out.rd
          have z0 : w10.cell? ⟨w.heap.size, 0, none⟩ = some (.slice A0 l1.length c0) := blk_cell hb0 0
          have f0 : w10.frozen? ⟨w.heap.size, 0, none⟩ = false := blk_frozen hb0 0
          clear hb0
          have z2 : (w10.setCell ⟨w.heap.size, 0, none⟩ (.slice A2 lr0.length c2)).cell? ⟨x, 6, none⟩ = some (.slice none 0 0) := blk_cell (H4.out.rest HVV.out).xb 6
          have f2 : (w10.setCell ⟨w.heap.size, 0, none⟩ (.slice A2 lr0.length c2)).frozen? ⟨x, 6, none⟩ = false := blk_frozen (H4.out.rest HVV.out).xb 6
          go_wp2_with fail
          go_meet
          have hres : res = (⟨5, v1, 0, 0, ve, [], tt0⟩, lr0) := by
            rw [HRES.out.2]
            unfold stepS
            rw [← HKK.out, HVS.out, HVE.out]
            simp [dN, dDraw, dPath, dData, lng, hasN, hasD, k0, k9, HO1_0.out, HO2_0.out]
          rw [hres]
          refine ⟨uA0, uc0, Aside0.mk ((H4.out.rest HVV.out).put 6 (.slice uA0 tt0.length uc0)), Aside0.mk ?_⟩
          have hq1 := HLX0.out
          have hq2 := HGX0.out
          have hq3 := HWS0.out
          refine Kd.R_lower (Kd.R_mono (Kd.R_step (Kd.R_bound HRU0.out) ?_) ?_) hq3
          · rintro j ⟨_, hj, _⟩ _
            exact (Below.heap_setCell _ _ _ _ (by simp; omega)).trans (Below.heap_setCell _ _ _ _ (by simp; omega))
          · rintro j ⟨_, hj, _⟩
            omega
        · obtain ⟨Ab0, cb0, hb0, hbv⟩ := HRS.out.rd
          have b0 : wc.cell? ⟨w.heap.size, 0, none⟩ = some (.slice Ab0 l1.length cb0) := blk_cell hb0 0
          have HBV := Aside0.mk hbv
          clear hb0 hbv
          go_wp2_with fail
          refine (rbyte_calls HBV.out (HB.out.trans (HRS.out.bel.mono HB.out.size))).mono ?_
          rintro e w10 ⟨vv, rfl, hvv, hbb⟩
          have H4 := Aside0.mk (HRS.out.below hbb)
          have HVV := Aside0.mk hvv
          have hbnd0 := one_lt l1
          clear b0 hbb HBV
          generalize ho1 : (one l1).1 = nn0 at *
          generalize ho2 : (one l1).2 = lr0 at *
          have HO1_0 := Aside0.mk ho1
          have HO2_0 := Aside0.mk ho2
          clear ho1 ho2
          obtain ⟨A2, c2, rfl, _, _⟩ := hvv
          obtain ⟨A0, c0, hb0, _⟩ := H4.out.rd
          have z0 : w10.cell? ⟨w.heap.size, 0, none⟩ = some (.slice A0 l1.length c0) := blk_cell hb0 0
          have f0 : w10.frozen? ⟨w.heap.size, 0, none⟩ = false := blk_frozen hb0 0
          clear hb0
          have z2 : (w10.setCell ⟨w.heap.size, 0, none⟩ (.slice A2 lr0.length c2)).cell? ⟨x, 2, none⟩ = some (.int .i64 0) := blk_cell (H4.out.rest HVV.out).xb 2
          have f2 : (w10.setCell ⟨w.heap.size, 0, none⟩ (.slice A2 lr0.length c2)).frozen? ⟨x, 2, none⟩ = false := blk_frozen (H4.out.rest HVV.out).xb 2
          go_upto_region 29 with fail
          have HY1 := Aside0.mk ((H4.out.rest HVV.out).put 2 (.int .i64 nn0))
          clear z0 f0 z2 f2 H4 HVV
          generalize (w10.setCell ⟨w.heap.size, 0, none⟩ (.slice A2 lr0.length c2)).setCell ⟨x, 2, none⟩ (.int .i64 nn0) = w31 at *
          obtain ⟨Ab1, cb1, hb0, hbv⟩ := HY1.out.rd
          have b0 : w31.cell? ⟨w.heap.size, 0, none⟩ = some (.slice Ab1 lr0.length cb1) := blk_cell hb0 0
          have HBV := Aside0.mk hbv
          clear hb0 hbv
          go_wp2_with fail
          refine (rtext_calls 7 (by decide) HBV.out (HB.out.trans (HY1.out.bel.mono HB.out.size))).mono ?_
          rintro e w11 ⟨vv, uu, rfl, hvv, hRu, hbb⟩
          have H4 := Aside0.mk (HY1.out.below hbb)
          have HVV := Aside0.mk hvv
          have HLX1 := Aside0.mk (blk_lt HY1.out.xb)
          have HGX1 := Aside0.mk HY1.out.gx
          have HWS1 := Aside0.mk HY1.out.bel.size
          clear b0 hbb HBV
          generalize ho1 : (txt 7 lr0).1 = tt1 at *
          generalize ho2 : (txt 7 lr0).2 = lr1 at *
          have HO1_1 := Aside0.mk ho1
          have HO2_1 := Aside0.mk ho2
          clear ho1 ho2
          obtain ⟨uA1, uc1, rfl⟩ := Kd.R_slice hRu
          rw [ints_len] at hRu ⊢
          have HRU1 := Aside0.mk hRu
          clear hRu
          obtain ⟨A2, c2, rfl, _, _⟩ := hvv
          obtain ⟨A0, c0, hb0, _⟩ := H4.out.rd
          have z0 : w11.cell? ⟨w.heap.size, 0, none⟩ = some (.slice A0 lr0.length c0) := blk_cell hb0 0
          have f0 : w11.frozen? ⟨w.heap.size, 0, none⟩ = false := blk_frozen hb0 0
          clear hb0
          have z2 : (w11.setCell ⟨w.heap.size, 0, none⟩ (.slice A2 lr1.length c2)).cell? ⟨x, 6, none⟩ = some (.slice none 0 0) := blk_cell (H4.out.rest HVV.out).xb 6
          have f2 : (w11.setCell ⟨w.heap.size, 0, none⟩ (.slice A2 lr1.length c2)).frozen? ⟨x, 6, none⟩ = false := blk_frozen (H4.out.rest HVV.out).xb 6
          go_wp2_with fail
          go_meet
          have hres : res = (⟨6, v1, nn0, 0, ve, [], tt1⟩, lr1) := by
            rw [HRES.out.2]
            unfold stepS
            rw [← HKK.out, HVS.out, HVE.out]
            simp [dN, dDraw, dPath, dData, lng, hasN, hasD, k0, k9, HO1_0.out, HO2_0.out, HO1_1.out, HO2_1.out]
          rw [hres]
          refine ⟨uA1, uc1, Aside0.mk ((H4.out.rest HVV.out).put 6 (.slice uA1 tt1.length uc1)), Aside0.mk ?_⟩
          have hq1 := HLX1.out
          have hq2 := HGX1.out
          have hq3 := HWS1.out
          refine Kd.R_lower (Kd.R_mono (Kd.R_step (Kd.R_bound HRU1.out) ?_) ?_) hq3
          · rintro j ⟨_, hj, _⟩ _
            exact (Below.heap_setCell _ _ _ _ (by simp; omega)).trans (Below.heap_setCell _ _ _ _ (by simp; omega))
          · rintro j ⟨_, hj, _⟩
            omega
        · obtain ⟨Ab0, cb0, hb0, hbv⟩ := HRS.out.rd
          have b0 : wc.cell? ⟨w.heap.size, 0, none⟩ = some (.slice Ab0 l1.length cb0) := blk_cell hb0 0
          have HBV := Aside0.mk hbv
          clear hb0 hbv
          go_wp2_with fail
          refine (rbyte_calls HBV.out (HB.out.trans (HRS.out.bel.mono HB.out.size))).mono ?_
          rintro e w10 ⟨vv, rfl, hvv, hbb⟩
          have H4 := Aside0.mk (HRS.out.below hbb)
          have HVV := Aside0.mk hvv
          have hbnd0 := one_lt l1
          clear b0 hbb HBV
          generalize ho1 : (one l1).1 = nn0 at *
          generalize ho2 : (one l1).2 = lr0 at *
          have HO1_0 := Aside0.mk ho1
          have HO2_0 := Aside0.mk ho2
          clear ho1 ho2
          obtain ⟨A2, c2, rfl, _, _⟩ := hvv
          obtain ⟨A0, c0, hb0, _⟩ := H4.out.rd
          have z0 : w10.cell? ⟨w.heap.size, 0, none⟩ = some (.slice A0 l1.length c0) := blk_cell hb0 0
          have f0 : w10.frozen? ⟨w.heap.size, 0, none⟩ = false := blk_frozen hb0 0
          clear hb0
          have z2 : (w10.setCell ⟨w.heap.size, 0, none⟩ (.slice A2 lr0.length c2)).cell? ⟨x, 2, none⟩ = some (.int .i64 0) := blk_cell (H4.out.rest HVV.out).xb 2
          have f2 : (w10.setCell ⟨w.heap.size, 0, none⟩ (.slice A2 lr0.length c2)).frozen? ⟨x, 2, none⟩ = false := blk_frozen (H4.out.rest HVV.out).xb 2
          go_wp2_with fail
          go_meet
          have hres : res = (⟨7, v1, nn0, 0, ve, [], []⟩, lr0) := by
            rw [HRES.out.2]
            unfold stepS
            rw [← HKK.out, HVS.out, HVE.out]
            simp [dN, dDraw, dPath, dData, lng, hasN, hasD, k0, k9, HO1_0.out, HO2_0.out]
          rw [hres]
          exact ⟨none, 0, Aside0.mk ((H4.out.rest HVV.out).put 2 (.int .i64 nn0)), Aside0.mk (Kd.R_nil _ _ _ _ _)⟩
        · obtain ⟨Ab0, cb0, hb0, hbv⟩ := HRS.out.rd
          have b0 : wc.cell? ⟨w.heap.size, 0, none⟩ = some (.slice Ab0 l1.length cb0) := blk_cell hb0 0
          have HBV := Aside0.mk hbv
          clear hb0 hbv
          go_wp2_with fail
          refine (rbyte_calls HBV.out (HB.out.trans (HRS.out.bel.mono HB.out.size))).mono ?_
          rintro e w10 ⟨vv, rfl, hvv, hbb⟩
          have H4 := Aside0.mk (HRS.out.below hbb)
          have HVV := Aside0.mk hvv
          have hbnd0 := one_lt l1
          clear b0 hbb HBV
          generalize ho1 : (one l1).1 = nn0 at *
          generalize ho2 : (one l1).2 = lr0 at *
          have HO1_0 := Aside0.mk ho1
          have HO2_0 := Aside0.mk ho2
          clear ho1 ho2
          obtain ⟨A2, c2, rfl, _, _⟩ := hvv
          obtain ⟨A0, c0, hb0, _⟩ := H4.out.rd
          have z0 : w10.cell? ⟨w.heap.size, 0, none⟩ = some (.slice A0 l1.length c0) := blk_cell hb0 0
          have f0 : w10.frozen? ⟨w.heap.size, 0, none⟩ = false := blk_frozen hb0 0
          clear hb0
          have z2 : (w10.setCell ⟨w.heap.size, 0, none⟩ (.slice A2 lr0.length c2)).cell? ⟨x, 2, none⟩ = some (.int .i64 0) := blk_cell (H4.out.rest HVV.out).xb 2
          have f2 : (w10.setCell ⟨w.heap.size, 0, none⟩ (.slice A2 lr0.length c2)).frozen? ⟨x, 2, none⟩ = false := blk_frozen (H4.out.rest HVV.out).xb 2
          go_wp2_with fail
          go_meet
          have hres : res = (⟨8, v1, nn0, 0, ve, [], []⟩, lr0) := by
            rw [HRES.out.2]
            unfold stepS
            rw [← HKK.out, HVS.out, HVE.out]
            simp [dN, dDraw, dPath, dData, lng, hasN, hasD, k0, k9, HO1_0.out, HO2_0.out]
          rw [hres]
          exact ⟨none, 0, Aside0.mk ((H4.out.rest HVV.out).put 2 (.int .i64 nn0)), Aside0.mk (Kd.R_nil _ _ _ _ _)⟩
        · obtain ⟨Ab0, cb0, hb0, hbv⟩ := HRS.out.rd
          have b0 : wc.cell? ⟨w.heap.size, 0, none⟩ = some (.slice Ab0 l1.length cb0) := blk_cell hb0 0
          have HBV := Aside0.mk hbv
          clear hb0 hbv
          go_wp2_with fail
          refine (rtext_calls 7 (by decide) HBV.out (HB.out.trans (HRS.out.bel.mono HB.out.size))).mono ?_
          rintro e w10 ⟨vv, uu, rfl, hvv, hRu, hbb⟩
          have H4 := Aside0.mk (HRS.out.below hbb)
          have HVV := Aside0.mk hvv
          have HLX0 := Aside0.mk (blk_lt HRS.out.xb)
          have HGX0 := Aside0.mk HRS.out.gx
          have HWS0 := Aside0.mk HRS.out.bel.size
          clear b0 hbb HBV
          generalize ho1 : (txt 7 l1).1 = tt0 at *
          generalize ho2 : (txt 7 l1).2 = lr0 at *
          have HO1_0 := Aside0.mk ho1
          have HO2_0 := Aside0.mk ho2
          clear ho1 ho2
          obtain ⟨uA0, uc0, rfl⟩ := Kd.R_slice hRu
          rw [ints_len] at hRu ⊢
          have HRU0 := Aside0.mk hRu
          clear hRu
          obtain ⟨A2, c2, rfl, _, _⟩ := hvv
          obtain ⟨A0, c0, hb0, _⟩ := H4.out.rd
          have z0 : w10.cell? ⟨w.heap.size, 0, none⟩ = some (.slice A0 l1.length c0) := blk_cell hb0 0
          have f0 : w10.frozen? ⟨w.heap.size, 0, none⟩ = false := blk_frozen hb0 0
          clear hb0
          have hq1 := HLX0.out
          have hq2 := HGX0.out
          have hRc : Kd.R (Kd.int .u8) 5 (w10.setCell ⟨w.heap.size, 0, none⟩ (.slice A2 lr0.length c2)) _ _ (.slice uA0 tt0.length uc0) (ints tt0) := Kd.R_step (Kd.R_bound HRU0.out) (fun j hj _ => Below.heap_setCell _ _ _ _ (by have := hj.2.1; simp; omega))
          have hst := Kd.C_string (P := Tryd.prog) (src := 22) (dst := 9) (c := uc0) Tryd.underlying22 Tryd.underlying5 Tryd.underlying9 (Kd.R_reads' hRc).2.2
          rw [str_nums, ints_len] at hst
          clear hq1 hq2 hRc
          have z2 : (w10.setCell ⟨w.heap.size, 0, none⟩ (.slice A2 lr0.length c2)).cell? ⟨x, 5, none⟩ = some (.string (str [])) := blk_cell (H4.out.rest HVV.out).xb 5
          have f2 : (w10.setCell ⟨w.heap.size, 0, none⟩ (.slice A2 lr0.length c2)).frozen? ⟨x, 5, none⟩ = false := blk_frozen (H4.out.rest HVV.out).xb 5
          go_upto_region 10 with fail
          have HY1 := Aside0.mk ((H4.out.rest HVV.out).put 5 (.string (str tt0)))
          clear z0 f0 z2 f2 H4 HVV
          generalize (w10.setCell ⟨w.heap.size, 0, none⟩ (.slice A2 lr0.length c2)).setCell ⟨x, 5, none⟩ (.string (str tt0)) = w31 at *
          obtain ⟨Ab1, cb1, hb0, hbv⟩ := HY1.out.rd
          have b0 : w31.cell? ⟨w.heap.size, 0, none⟩ = some (.slice Ab1 lr0.length cb1) := blk_cell hb0 0
          have HBV := Aside0.mk hbv
          clear hb0 hbv
          go_wp2_with fail
          refine (rtext_calls 63 (by decide) HBV.out (HB.out.trans (HY1.out.bel.mono HB.out.size))).mono ?_
          rintro e w11 ⟨vv, uu, rfl, hvv, hRu, hbb⟩
          have H4 := Aside0.mk (HY1.out.below hbb)
          have HVV := Aside0.mk hvv
          have HLX1 := Aside0.mk (blk_lt HY1.out.xb)
          have HGX1 := Aside0.mk HY1.out.gx
          have HWS1 := Aside0.mk HY1.out.bel.size
          clear b0 hbb HBV
          generalize ho1 : (txt 63 lr0).1 = tt1 at *
          generalize ho2 : (txt 63 lr0).2 = lr1 at *
          have HO1_1 := Aside0.mk ho1
          have HO2_1 := Aside0.mk ho2
          clear ho1 ho2
          obtain ⟨uA1, uc1, rfl⟩ := Kd.R_slice hRu
          rw [ints_len] at hRu ⊢
          have HRU1 := Aside0.mk hRu
          clear hRu
          obtain ⟨A2, c2, rfl, _, _⟩ := hvv
          obtain ⟨A0, c0, hb0, _⟩ := H4.out.rd
          have z0 : w11.cell? ⟨w.heap.size, 0, none⟩ = some (.slice A0 lr0.length c0) := blk_cell hb0 0
          have f0 : w11.frozen? ⟨w.heap.size, 0, none⟩ = false := blk_frozen hb0 0
          clear hb0
          have z2 : (w11.setCell ⟨w.heap.size, 0, none⟩ (.slice A2 lr1.length c2)).cell? ⟨x, 6, none⟩ = some (.slice none 0 0) := blk_cell (H4.out.rest HVV.out).xb 6
          have f2 : (w11.setCell ⟨w.heap.size, 0, none⟩ (.slice A2 lr1.length c2)).frozen? ⟨x, 6, none⟩ = false := blk_frozen (H4.out.rest HVV.out).xb 6
          go_wp2_with fail
          go_meet
          have hres : res = (⟨9, v1, 0, 0, ve, tt0, tt1⟩, lr1) := by
            rw [HRES.out.2]
            unfold stepS
            rw [← HKK.out, HVS.out, HVE.out]
            simp [dN, dDraw, dPath, dData, lng, hasN, hasD, k0, k9, HO1_0.out, HO2_0.out, HO1_1.out, HO2_1.out]
          rw [hres]
          refine ⟨uA1, uc1, Aside0.mk ((H4.out.rest HVV.out).put 6 (.slice uA1 tt1.length uc1)), Aside0.mk ?_⟩
          have hq1 := HLX1.out
          have hq2 := HGX1.out
          have hq3 := HWS1.out
          refine Kd.R_lower (Kd.R_mono (Kd.R_step (Kd.R_bound HRU1.out) ?_) ?_) hq3
          · rintro j ⟨_, hj, _⟩ _
            exact (Below.heap_setCell _ _ _ _ (by simp; omega)).trans (Below.heap_setCell _ _ _ _ (by simp; omega))
          · rintro j ⟨_, hj, _⟩
            omega
      case rest =>
        clear HRS xk
        obtain ⟨⟨rk, rs, rn, rd, re, rp, rdat⟩, l5⟩ := res
        obtain ⟨dA, dc, hcut, hR⟩ := hcut
        dsimp only at hcut hR
        have hres : rk = kk ∧ rs = v1 ∧ re = ve := by
          have h := HRES.out.2
          unfold stepS at h
          rw [← HKK.out, HVS.out, HVE.out] at h
          injection h with h _
          injection h with h1 h2 h3 h4 h5 h6 h7
          exact ⟨h1, h2, h5⟩
        have HRS := Aside0.mk hres
        have HC := Aside0.mk hcut.out
        have HR := Aside0.mk hR.out
        have hgx := hcut.out.gx
        have n1 : x ≠ w.heap.size + 1 := by omega
        have n2 : x ≠ w.heap.size + 1 + 1 := by omega
        have n3 : w.heap.size ≠ x := by omega
        have n4 : w.heap.size + 1 ≠ x := by omega
        have n5 : w.heap.size + 1 + 1 ≠ x := by omega
        have n6 : w.heap.size + 2 ≠ x := by omega
        have n7 : x ≠ w.heap.size + 2 := by omega
        obtain ⟨A0, c0, hb0, hbv⟩ := hcut.out.rd
        have HBV := Aside0.mk hbv
        have y0 : wc.cell? ⟨w.heap.size, 0, none⟩ = some (.slice A0 l5.length c0) := blk_cell hb0 0
        have y1 : wc.cell? ⟨w.heap.size + 1, 0, none⟩ = some (.slice none 0 0) := blk_cell hcut.out.r1 0
        have g1 : wc.frozen? ⟨w.heap.size + 1, 0, none⟩ = false := blk_frozen hcut.out.r1 0
        have z0 : wc.cell? ⟨w.heap.size + 1 + 1, 0, none⟩ = some (.int .u8 0) := blk_cell hcut.out.r2 0
        have f0 : wc.frozen? ⟨w.heap.size + 1 + 1, 0, none⟩ = false := blk_frozen hcut.out.r2 0
        have z1 : wc.cell? ⟨w.heap.size + 1 + 1, 1, none⟩ = some (.int .u8 0) := blk_cell hcut.out.r2 1
        have f1 : wc.frozen? ⟨w.heap.size + 1 + 1, 1, none⟩ = false := blk_frozen hcut.out.r2 1
        have z2 : wc.cell? ⟨w.heap.size + 1 + 1, 2, none⟩ = some (.int .i64 0) := blk_cell hcut.out.r2 2
        have f2 : wc.frozen? ⟨w.heap.size + 1 + 1, 2, none⟩ = false := blk_frozen hcut.out.r2 2
        have z3 : wc.cell? ⟨w.heap.size + 1 + 1, 3, none⟩ = some (.int .u32 0) := blk_cell hcut.out.r2 3
        have f3 : wc.frozen? ⟨w.heap.size + 1 + 1, 3, none⟩ = false := blk_frozen hcut.out.r2 3
        have z4 : wc.cell? ⟨w.heap.size + 1 + 1, 4, none⟩ = some (.bool false) := blk_cell hcut.out.r2 4
        have f4 : wc.frozen? ⟨w.heap.size + 1 + 1, 4, none⟩ = false := blk_frozen hcut.out.r2 4
        have z5 : wc.cell? ⟨w.heap.size + 1 + 1, 5, none⟩ = some (.string ⟨#[]⟩) := blk_cell hcut.out.r2 5
        have f5 : wc.frozen? ⟨w.heap.size + 1 + 1, 5, none⟩ = false := blk_frozen hcut.out.r2 5
        have z6 : wc.cell? ⟨w.heap.size + 1 + 1, 6, none⟩ = some (.slice none 0 0) := blk_cell hcut.out.r2 6
        have f6 : wc.frozen? ⟨w.heap.size + 1 + 1, 6, none⟩ = false := blk_frozen hcut.out.r2 6
        have x0 : wc.cell? ⟨x, 0, none⟩ = some (.int .u8 kk) := blk_cell hcut.out.xb 0
        have x1 : wc.cell? ⟨x, 1, none⟩ = some (.int .u8 v1) := blk_cell hcut.out.xb 1
        have x2 : wc.cell? ⟨x, 2, none⟩ = some (.int .i64 rn) := blk_cell hcut.out.xb 2
        have x3 : wc.cell? ⟨x, 3, none⟩ = some (.int .u32 rd) := blk_cell hcut.out.xb 3
        have x4 : wc.cell? ⟨x, 4, none⟩ = some (.bool ve) := blk_cell hcut.out.xb 4
        have x5 : wc.cell? ⟨x, 5, none⟩ = some (.string (str rp)) := blk_cell hcut.out.xb 5
        have x6 : wc.cell? ⟨x, 6, none⟩ = some (.slice dA rdat.length dc) := blk_cell hcut.out.xb 6
        clear hb0 hbv hcut hR hres hgx em HKK HVS HVE HSD HDD hk hk9
        go_wp2_with fail
        go_region_held3 (fun w' => w'.cell? ⟨w.heap.size, 0, none⟩ = some (.slice A0 l5.length c0) ∧ w'.cell? ⟨x, 0, none⟩ = some (.int .u8 kk) ∧ w'.cell? ⟨x, 1, none⟩ = some (.int .u8 v1) ∧ w'.cell? ⟨x, 2, none⟩ = some (.int .i64 rn) ∧ w'.cell? ⟨x, 3, none⟩ = some (.int .u32 rd) ∧ w'.cell? ⟨x, 4, none⟩ = some (.bool ve) ∧ w'.cell? ⟨x, 5, none⟩ = some (.string (str rp)) ∧ w'.cell? ⟨x, 6, none⟩ = some (.slice dA rdat.length dc)) (simp [*, World.cell?_alloc_some, World.cell?_setCell_far, ne_two]) (fail)
        -- the end
        · have HE := rend1 HC.out HR.out (.slice A0 l5.length c0) (.int .u8 kk) (.int .u8 v1) (.int .i64 rn) (.int .u32 rd) (.bool ve) (.string (str rp))
          unfold put7 at HE
          clear HC HR n1 n2 n3 n4 n5 n6 n7 y0 y1 g1 z0 f0 z1 f1 z2 f2 z3 f3 z4 f4 z5 f5 z6 f6 x0 x1 x2 x3 x4 x5 x6
          generalize ((((((((wc.setCell ⟨w.heap.size + 1, 0, none⟩ (.slice A0 l5.length c0)).setCell ⟨w.heap.size + 1 + 1, 0, none⟩ (.int .u8 kk)).setCell ⟨w.heap.size + 1 + 1, 1, none⟩ (.int .u8 v1)).setCell ⟨w.heap.size + 1 + 1, 2, none⟩ (.int .i64 rn)).setCell ⟨w.heap.size + 1 + 1, 3, none⟩ (.int .u32 rd)).setCell ⟨w.heap.size + 1 + 1, 4, none⟩ (.bool ve)).setCell ⟨w.heap.size + 1 + 1, 5, none⟩ (.string (str rp))).setCell ⟨w.heap.size + 1 + 1, 6, none⟩ (.slice dA rdat.length dc)).drew = w9 at *
          have c1 : w9.cell? ⟨w.heap.size + 1, 0, none⟩ = some (.slice A0 l5.length c0) := blk_cell HE.r1 0
          have z0 : w9.cell? ⟨w.heap.size + 1 + 1, 0, none⟩ = some (.int .u8 kk) := blk_cell HE.r2 0
          have z1 : w9.cell? ⟨w.heap.size + 1 + 1, 1, none⟩ = some (.int .u8 v1) := blk_cell HE.r2 1
          have z2 : w9.cell? ⟨w.heap.size + 1 + 1, 2, none⟩ = some (.int .i64 rn) := blk_cell HE.r2 2
          have z3 : w9.cell? ⟨w.heap.size + 1 + 1, 3, none⟩ = some (.int .u32 rd) := blk_cell HE.r2 3
          have z4 : w9.cell? ⟨w.heap.size + 1 + 1, 4, none⟩ = some (.bool ve) := blk_cell HE.r2 4
          have z5 : w9.cell? ⟨w.heap.size + 1 + 1, 5, none⟩ = some (.string (str rp)) := blk_cell HE.r2 5
          have z6 : w9.cell? ⟨w.heap.size + 1 + 1, 6, none⟩ = some (.slice dA rdat.length dc) := blk_cell HE.r2 6
          go_wp2_with fail
          refine bodyPost_ret (v := .tuple #[.agg #[.slice A0 l5.length c0], .agg #[.int .u8 kk, .int .u8 v1, .int .i64 rn, .int .u32 rd, .bool ve, .string (str rp), .slice dA rdat.length dc]]) (by first | (simp [results, Tryd.results20, go_sem, c1, z0, z1, z2, z3, z4, z5, z6]; done) | (simp [results, Tryd.results20, go_sem, c1, z0, z1, z2, z3, z4, z5, z6]; rfl)) rfl ?_
          obtain ⟨rfl, rfl, rfl⟩ := HRS.out
          rw [HRES.out.1]
          exact ⟨_, _, rfl, HBV.out, HE.bel, k32_mkM w9 _ _ (s32 ⟨rk, rs, rn, rd, re, rp, rdat⟩) (v6 := .slice dA rdat.length dc) HE.row⟩
end Go.Proofs.YtfjjikabinelgaaDoor
namespace Go.Proofs.YtfjjikabinelgaaDoor
open Go.RowKit Go.Maps Go.Proofs.YtfjjikabinelgaaDoorW.PrintWords Go.Proofs.YtfjjikabinelgaaDoorW.PrintLast Go.Proofs.YtfjjikabinelgaaDoorW.PrintMore Sc PScriptLines
set_option linter.unusedVariables false
set_option linter.unusedSimpArgs false

theorem info32 : (Tryd.prog.info? 32).map (fun i => (i.zero, i.size, i.bytes)) = some (some (.agg zero33), 7, 64) := by kernel_rfl

/-- Decode's round: done, what is left; block w.heap.size is the reader. -/
structure RL (w : World) (l : List UInt8) (done : List Stp) (rem : List UInt8) (v : Value) (wr : World) : Prop where
  rd : ∃ u, wr.heap[w.heap.size]? = some (.cells #[u] 55 (0, 0)) ∧ By w u rem
  out : Kd.R k32 32 wr w.heap.size (fun k => k ≠ w.heap.size) v (done.map s32)
  bel : Below w.heap.size w wr
  len : done.length ≤ 4096
  all : done ++ Sc.decode (4096 - done.length) rem = Sc.decode 4096 l

/-- The world ahead of the append. -/
def W3 (w W : World) (u : Value) (o1 o2 : Obj) : World := ((W.setCell ⟨w.heap.size, 0, none⟩ u).alloc o1).alloc o2
theorem W3_size (w W : World) (u : Value) (o1 o2 : Obj) : (W3 w W u o1 o2).heap.size = W.heap.size + 1 + 1 := by simp [W3, World.setCell]
theorem W3_far {w W : World} (u : Value) (o1 o2 : Obj) {k : Nat} (h : k < W.heap.size) (hk : k ≠ w.heap.size) : (W3 w W u o1 o2).heap[k]? = W.heap[k]? := by
  unfold W3
  have hs : (W.setCell ⟨w.heap.size, 0, none⟩ u).heap.size = W.heap.size := by simp [World.setCell]
  rw [Below.heap_alloc _ _ _ (by rw [World.size_alloc, hs]; omega), Below.heap_alloc _ _ _ (by rw [hs]; omega), Below.heap_setCell _ _ _ _ (by simpa using hk)]

theorem RL.after {w wr W : World} {l : List UInt8} {done : List Stp} {rem : List UInt8} {v : Value} (H : RL w l done rem v wr) (hb : Below wr.heap.size wr W) {u0 : Value} (h0 : W.heap[w.heap.size]? = some (.cells #[u0] 55 (0, 0))) (u : Value) (o1 o2 : Obj) :
    Kd.R k32 32 (W3 w W u o1 o2) w.heap.size (fun k => k ≠ w.heap.size) v (done.map s32) ∧ Below w.heap.size w (W3 w W u o1 o2) ∧ (W3 w W u o1 o2).heap[w.heap.size]? = some (.cells #[u] 55 (0, 0)) := by
  have hs : (W.setCell ⟨w.heap.size, 0, none⟩ u).heap.size = W.heap.size := by simp [World.setCell]
  have hlt := blk_lt h0
  refine ⟨Kd.R_step H.out (fun k hk hl => (W3_far u o1 o2 (Nat.lt_of_lt_of_le hl hb.size) hk).trans (hb.block k hl)), ?_, ?_⟩
  · unfold W3
    have h1 : Below w.heap.size w (W.setCell ⟨w.heap.size, 0, none⟩ u) := (H.bel.trans (hb.mono H.bel.size)).setCell (Nat.le_refl _) u
    exact (h1.alloc (by rw [hs]; omega) _).alloc (by rw [World.size_alloc, hs]; omega) _
  · unfold W3
    rw [Below.heap_alloc _ _ _ (by rw [World.size_alloc, hs]; omega), Below.heap_alloc _ _ _ (by rw [hs]; omega)]
    exact blk_set h0 0 u

theorem RL.next {w wr W w2 : World} {l : List UInt8} {done : List Stp} {rem : List UInt8} {v v1 u : Value} (H : RL w l done rem v wr) (hne : rem ≠ []) (hlt : done.length < 4096)
    (h3 : W.heap[w.heap.size]? = some (.cells #[u] 55 (0, 0))) (hby : By w u (Sc.step rem).2)
    (hR : Kd.R k32 32 w2 w.heap.size (fun k => k ≠ w.heap.size) v1 (done.map s32 ++ [s32 (Sc.step rem).1])) (hb : Below w.heap.size w w2) (hg2 : W.grownBy w2 v.ownBlock) : RL w l (done ++ [(Sc.step rem).1]) (Sc.step rem).2 v1 w2 := by
  refine ⟨⟨u, ?_, hby⟩, ?_, hb, by simp; omega, ?_⟩
  · refine (hg2.block _ (blk_lt h3) ?_).trans h3
    intro e
    exact H.out.1 _ e.symm rfl
  · rw [List.map_append]
    exact hR
  · have h := H.all
    rw [show 4096 - done.length = (4096 - (done ++ [(Sc.step rem).1]).length) + 1 by simp; omega] at h
    have e : ∀ f b, b ≠ [] → Sc.decode (f + 1) b = (Sc.step b).1 :: Sc.decode f (Sc.step b).2 := fun f b hb => if_neg hb
    rw [e _ _ hne] at h
    rw [← h, List.append_assoc]
    rfl

set_option maxHeartbeats 2000000 in
set_option maxRecDepth 100000 in
theorem rdecode_calls {v : Value} {l : List UInt8} (w : World) (h : By w v l) :
    Calls Tryd.prog 11 #[v] w fun e w' => ∃ u, e = .returned u ∧ Below w.heap.size w w' ∧ Kd.R k32 32 w' w.heap.size (fun _ => True) u ((Sc.decode 4096 l).map s32) := by
  have HB := Aside0.mk h
  obtain ⟨A, c, rfl, hc, hr⟩ := h
  clear hc hr
  go_enter Tryd.func11, Tryd.ntmps11
  go_wp2_with fail
  go_loopw [4] (fun v wr => ∃ done rem A c, v = .slice A done.length c ∧ Aside0 (RL w l done rem v wr)) (fun v _ => 4096 - lenOf v)
  case atStart => exact ⟨[], l, none, 0, rfl, Aside0.mk ⟨⟨_, heap_alloc_new w _, HB.out⟩, Kd.R_nil _ _ _ _ _, (Below.refl _ _).alloc (Nat.le_refl _) _, Nat.zero_le _, rfl⟩⟩
  case round =>
    obtain ⟨done, rem, vA, vc, rfl, HS⟩ := hrel
    obtain ⟨rv, rb, hby⟩ := HS.out.rd
    have HBY := Aside0.mk hby
    obtain ⟨rA, rc, rfl, _, _⟩ := hby
    have hcell : wr.cell? ⟨w.heap.size, 0, none⟩ = some (.slice rA rem.length rc) := blk_cell rb 0
    have hgl := blk_lt rb
    have hlen := HS.out.len
    have RB := Aside0.mk rb
    clear rb
    by_cases hcond : rem ≠ [] ∧ done.length < 4096
    · obtain ⟨hne, hlt⟩ := hcond
      have hpos : 0 < rem.length := List.length_pos_iff.2 hne
      have HNE := Aside0.mk hne
      clear hne
      go_wp2_with fail
      refine (rstep_calls HBY.out HS.out.bel).mono ?_
      rintro e W ⟨v', ⟨cl⟩, rfl, hv', hbw, hM⟩
      obtain ⟨v6, hcl, h6⟩ := k32_openM hM
      dsimp only at hcl
      subst hcl
      obtain ⟨dA, dc, rfl⟩ := Kd.R_slice h6
      have HM := Aside0.mk (k32.M_lower HS.out.bel.size (k32.M_bound hM))
      have HBW := Aside0.mk hbw
      have HBV := Aside0.mk hv'
      have HRB : Aside0 (W.heap[w.heap.size]? = some (.cells #[.slice rA rem.length rc] 55 (0, 0))) := Aside0.mk ((hbw.block _ hgl).trans RB.out)
      have hc2 : W.cell? ⟨w.heap.size, 0, none⟩ = some (.slice rA rem.length rc) := blk_cell HRB.out 0
      have hf2 : W.frozen? ⟨w.heap.size, 0, none⟩ = false := blk_frozen HRB.out 0
      have hgW : w.heap.size < W.heap.size := blk_lt HRB.out
      obtain ⟨nA, nc, rfl, _, _⟩ := hv'
      have HA := Aside0.mk (HS.out.after hbw HRB.out (.slice nA (Sc.step rem).2.length nc) (.cells #[.slice nA (Sc.step rem).2.length nc] 55) (.cells #[.int .u8 (s32 (Sc.step rem).1).f0, .int .u8 (s32 (Sc.step rem).1).f1, .int .i64 (s32 (Sc.step rem).1).f2, .int .u32 (s32 (Sc.step rem).1).f3, .bool (s32 (Sc.step rem).1).f4, .string (s32 (Sc.step rem).1).f5, .slice dA (s32 (Sc.step rem).1).f6.length dc] 32))
      have HM3 : Aside0 (k32.M (W3 w W (.slice nA (Sc.step rem).2.length nc) (.cells #[.slice nA (Sc.step rem).2.length nc] 55) (.cells #[.int .u8 (s32 (Sc.step rem).1).f0, .int .u8 (s32 (Sc.step rem).1).f1, .int .i64 (s32 (Sc.step rem).1).f2, .int .u32 (s32 (Sc.step rem).1).f3, .bool (s32 (Sc.step rem).1).f4, .string (s32 (Sc.step rem).1).f5, .slice dA (s32 (Sc.step rem).1).f6.length dc] 32)) w.heap.size _ _ _) := Aside0.mk (Kd.M_step HM.out (fun k hk hl => W3_far _ _ _ hl (by omega)))
      have HSZ := Aside0.mk (W3_size w W (.slice nA (Sc.step rem).2.length nc) (.cells #[.slice nA (Sc.step rem).2.length nc] 55) (.cells #[.int .u8 (s32 (Sc.step rem).1).f0, .int .u8 (s32 (Sc.step rem).1).f1, .int .i64 (s32 (Sc.step rem).1).f2, .int .u32 (s32 (Sc.step rem).1).f3, .bool (s32 (Sc.step rem).1).f4, .string (s32 (Sc.step rem).1).f5, .slice dA (s32 (Sc.step rem).1).f6.length dc] 32))
      clear hM h6 hbw
      go_wp2_with (at_builtin; refine Kd.R_append k32 (w0 := w) (W := W3 w W (.slice nA (Sc.step rem).2.length nc) (.cells #[.slice nA (Sc.step rem).2.length nc] 55) (.cells #[.int .u8 (s32 (Sc.step rem).1).f0, .int .u8 (s32 (Sc.step rem).1).f1, .int .i64 (s32 (Sc.step rem).1).f2, .int .u32 (s32 (Sc.step rem).1).f3, .bool (s32 (Sc.step rem).1).f4, .string (s32 (Sc.step rem).1).f5, .slice dA (s32 (Sc.step rem).1).f6.length dc] 32)) w.heap.size rfl (.tmp 24) (.tmp 26) 27 32 (.agg zero33) 64 rfl Tryd.underlying27 info32 rfl (by decide) (by decide) (.slice vA done.length vc) (done.map s32) (s32 (Sc.step rem).1) _ (fun k => k ≠ w.heap.size) _ rfl (by rw [HSZ.out]; rfl) HM3.out ?aK (fun k hk => by have := HSZ.out; omega) HA.out.1 HA.out.2.1 HA.out.2.1.size (by rw [List.length_map]; omega) ?_; (case aK => intro k hk; have h1 := hk.2.1; have h2 := Kd.R_lt HS.out.out; exact ⟨by omega, fun e => by have := h2 k e.symm; omega⟩); intro v1 w2 hR2 hb2 hg2 hat2)
      obtain ⟨xA, xc, rfl⟩ := Kd.R_slice hR2
      have el : (done.map s32 ++ [s32 (Sc.step rem).1]).length = done.length + 1 := by simp
      rw [el] at hR2 ⊢
      go_roundw
      case rel => exact ⟨done ++ [(Sc.step rem).1], (Sc.step rem).2, xA, xc, by simp, Aside0.mk (HS.out.next HNE.out hlt HA.out.2.2 HBV.out hR2 hb2 hg2)⟩
      case measure => simp [lenOf]; omega
    · have HEND : Aside0 (done = Sc.decode 4096 l) := Aside0.mk (by
        rw [← HS.out.all]
        by_cases hr : rem = []
        · subst hr
          have : ∀ f, Sc.decode f [] = [] := by intro f; cases f <;> rfl
          rw [this, List.append_nil]
        · have hl4 : done.length = 4096 := by
            rcases Nat.lt_or_ge done.length 4096 with h | h
            · exact absurd ⟨hr, h⟩ hcond
            · omega
          rw [hl4]
          simp [Sc.decode])
      by_cases hr : rem = []
      · subst hr
        clear hcond
        go_wp2_with fail
        go_ret
        refine ⟨_, rfl, HS.out.bel, ?_⟩
        rw [← HEND.out]
        exact Kd.R_mono HS.out.out (fun _ _ => trivial)
      · have hpos : 0 < rem.length := List.length_pos_iff.2 hr
        have hl4 : done.length = 4096 := by
          rcases Nat.lt_or_ge done.length 4096 with h | h
          · exact absurd ⟨hr, h⟩ hcond
          · omega
        have hnl : ¬ ((done.length : Int) < 4096) := by omega
        clear hcond hr hl4
        go_wp2_with fail
        go_ret
        refine ⟨_, rfl, HS.out.bel, ?_⟩
        rw [← HEND.out]
        exact Kd.R_mono HS.out.out (fun _ _ => trivial)
end Go.Proofs.YtfjjikabinelgaaDoor
namespace Go.Proofs.YtfjjikabinelgaaDoor
open Go.RowKit Go.Maps Go.Proofs.YtfjjikabinelgaaDoorW.PrintWords Go.Proofs.YtfjjikabinelgaaDoorW.PrintLast Go.Proofs.YtfjjikabinelgaaDoorW.PrintMore Sc PScriptLines
set_option linter.unusedVariables false
set_option linter.unusedSimpArgs false

theorem rd33_at (ds : List Stp) (i : Nat) (h : i < ds.length) : rd_T33 (ds.map s33) (i : Int) = s33 ds[i] := by
  unfold rd_T33
  rw [Int.toNat_natCast, List.getD_eq_getElem?_getD, List.getElem?_map, List.getElem?_eq_getElem h]
  rfl
theorem rd32_at (ds : List Stp) (i : Nat) (h : i < ds.length) : rd_T32 (ds.map s32) (i : Int) = s32 ds[i] := by
  unfold rd_T32
  rw [Int.toNat_natCast, List.getD_eq_getElem?_getD, List.getElem?_map, List.getElem?_eq_getElem h]
  rfl
theorem same_one (x : Stp) : sumpterref34_Same.f (s33 x).f0 (s33 x).f1 (s33 x).f2 (s33 x).f3 (s33 x).f4 (s33 x).f5 (s33 x).f6 (s32 x).f0 (s32 x).f1 (s32 x).f2 (s32 x).f3 (s32 x).f4 (s32 x).f5 (s32 x).f6 = some true := by
  unfold sumpterref34_Same.f
  rw [if_pos (by rfl), if_pos (by rfl), if_pos (by rfl), if_pos (by rfl), if_pos (by show (x.done == x.done) = true; simp), if_pos (by rfl)]
  show some ((strOfNums (ints x.data)).toList == (strOfNums (ints x.data)).toList) = some true
  simp
theorem same_l (ds : List Stp) (hl : ds.length ≤ 1000000) : ∀ (d i k : Nat), ds.length = i + d → d < k → sumpterlaw34_same.l0 k (ds.map s33) (ds.map s32) (i : Int) = some true
  | 0, i, k, hd, hk => by
    obtain ⟨k, rfl⟩ : ∃ m, k = m + 1 := ⟨k - 1, by omega⟩
    simp only [sumpterlaw34_same.l0]
    rw [if_neg (by rw [List.length_map]; omega)]
  | d + 1, i, k, hd, hk => by
    obtain ⟨k, rfl⟩ : ∃ m, k = m + 1 := ⟨k - 1, by omega⟩
    have hi : i < ds.length := by omega
    have w1 : wrap64 ((i : Int) + 1) = ((i + 1 : Nat) : Int) := by unfold wrap64; omega
    simp only [sumpterlaw34_same.l0]
    rw [if_pos (by rw [List.length_map]; omega), if_pos (by omega), if_pos (by rw [List.length_map]; omega), rd33_at ds i hi, rd32_at ds i hi, same_one, w1]
    simp only [Option.bind_some, if_true]
    exact same_l ds hl d (i + 1) k (by omega) (by omega)
theorem same_f (ds : List Stp) (hl : ds.length ≤ 1000000) : sumpterlaw34_same.f (ds.length + 1) (ds.map s33) (ds.map s32) = some true := by
  unfold sumpterlaw34_same.f
  rw [if_pos (by rw [List.length_map, List.length_map])]
  exact same_l ds hl ds.length 0 (ds.length + 1) (by omega) (by omega)

/-- same, called with two rows of the same steps. -/
theorem same_calls {w : World} {b0 b1 : Nat} {ok0 ok1 : Nat → Prop} {A0 A1 : Option Addr} {n0 c0 n1 c1 : Nat} (ds : List Stp) (hl : ds.length ≤ 1000000) (h0 : Kd.R k33 33 w b0 ok0 (.slice A0 n0 c0) (ds.map s33)) (h1 : Kd.R k32 32 w b1 ok1 (.slice A1 n1 c1) (ds.map s32)) :
    Calls Tryd.prog 9 #[.slice A0 n0 c0, .slice A1 n1 c1] w fun e w' => e = .returned (.bool true) ∧ Below w.heap.size w w' := by
  obtain ⟨rfl, l0, r0⟩ := Kd.R_reads' h0
  obtain ⟨rfl, l1, r1⟩ := Kd.R_reads' h1
  exact sumpterlaw34_same.calls (ds.length + 1) A0 c0 (ds.map s33) A1 c1 (ds.map s32) true w r0 l0 r1 l1 (same_f ds hl)
end Go.Proofs.YtfjjikabinelgaaDoor
