/- Walks of the script's reader: a text off. -/
import Derived.Test.YtfjjikabinelgaaDoorBytes
namespace Go.Proofs.YtfjjikabinelgaaDoor
open Go.RowKit Go.Proofs.YtfjjikabinelgaaDoorW.PrintWords Go.Proofs.YtfjjikabinelgaaDoorW.PrintLast Go.Proofs.YtfjjikabinelgaaDoorW.PrintMore Sc PScriptLines
set_option linter.unusedVariables false
set_option linter.unusedSimpArgs false
attribute [local go_sem] min_two

theorem grown_of_below_grown {w w1 w2 : World} {g : Nat} (h : w.grownBy w1 (some g)) (k : Below w1.heap.size w1 w2) : w.grownBy w2 (some g) :=
  ⟨k.os.trans h.os, k.tape.trans h.tape, k.output.trans h.output, Nat.le_trans h.size k.size, fun i hi hne => (k.block i (Nat.lt_of_lt_of_le hi h.size)).trans (h.block i hi hne)⟩
theorem grown_set {w w1 : World} {g : Nat} (h : w.grownBy w1 (some g)) (u : Value) : w.grownBy (w1.setCell ⟨g, 0, none⟩ u) (some g) :=
  ⟨h.os, h.tape, h.output, by simpa [World.setCell] using h.size, fun i hi hne => (Below.heap_setCell w1 ⟨g, 0, none⟩ u i (fun e => hne (by rw [e]))).trans (h.block i hi hne)⟩

theorem text_end {w0 w w1 w2 : World} {g most n c : Nat} {l L : List UInt8} {A : Option Addr} {v1 u : Value} (hL : (one l).2 = L) (hn : txtN most l = n) (hnl : n ≤ L.length) (hc : L.length ≤ c) (hs : w1.heap.size = w.heap.size)
    (hb : w1.heap[g]? = some (.cells #[.slice A L.length c] 52 (0, 0))) (hr : (Kd.int .u8).C w0 A L.length (ints L)) (hg1 : w.grownBy w1 (some g)) (HB2 : Below w1.heap.size w1 w2)
    (HO2 : w2.ownsRow w1.heap.size 5 1 v1 ([] ++ List.take n (ints L)).length (nums .u8 ([] ++ List.take n (ints L))))
    (hu : u = .slice (if c = n then A else A.map (·.add (n * 1))) (L.length - n) (c - n)) :
    Rd w0 (w2.setCell ⟨g, 0, none⟩ u) g (txt most l).2 ∧ w.grownBy (w2.setCell ⟨g, 0, none⟩ u) (some g) ∧ (Kd.int .u8).R 5 (w2.setCell ⟨g, 0, none⟩ u) w.heap.size (fun _ => True) v1 (ints (txt most l).1) := by
  have e1 : (txt most l).1 = L.take n := by simp only [txt, hL, hn]
  have e2 : (txt most l).2 = L.drop n := by simp only [txt, hL, hn]
  have hgl : g < w1.heap.size := blk_lt hb
  have hb2 : w2.heap[g]? = some (.cells #[.slice A L.length c] 52 (0, 0)) := (HB2.block g hgl).trans hb
  rw [e1, e2]
  refine ⟨⟨u, blk_set hb2 0 u, _, c - n, by rw [List.length_drop]; exact hu, by rw [List.length_drop]; omega, ?_⟩, grown_set (grown_of_below_grown hg1 HB2) u, ?_⟩
  · have hd := Kd.C_drop (k := Kd.int .u8) (c := c) (m := n) (xs := ints L) (by rw [ints_len]; exact hr) (by rw [ints_len]; exact hnl) (by rw [ints_len]; exact hc)
    rw [← ints_drop, ints_len] at hd
    exact hd
  · rw [ints_take, ← hs]
    have h := Kd.R_of_own (enc := Value.int .u8) (h1 := fun _ => rfl) (e := 5) (ok := fun _ => True) HO2 (fun _ _ => trivial)
    exact Kd.R_set h hb2 (fun q hq => by simp [Kd.scalar] at hq; omega) 0 u

set_option maxHeartbeats 400000 in
theorem text_calls {w0 w : World} {g : Nat} {l : List UInt8} (most : Nat) (hm : most ≤ 63) (h : Rd w0 w g l) (hB : Below w0.heap.size w0 w) (hg : w0.heap.size ≤ g) :
    Calls Tryd.prog 43 #[.pointer (some ⟨g, 0, none⟩), .int .i64 most] w fun e w' => ∃ v, e = .returned v ∧ Rd w0 w' g (txt most l).2 ∧ w.grownBy w' (some g) ∧ Kd.R (Kd.int .u8) 5 w' w.heap.size (fun _ => True) v (ints (txt most l).1) := by
  go_enter Tryd.func43, Tryd.ntmps43
  go_wp2_with fail
  refine (one_calls h hB).mono ?_
  rintro e w1 ⟨rfl, h1, hg1, hs1⟩
  have h1l := one_lt l
  have hn : txtN most l = min ((one l).1 % (most + 1)) (one l).2.length := rfl
  obtain ⟨v, hb, A, c, rfl, hc, hr⟩ := h1
  have hcell : w1.cell? ⟨g, 0, none⟩ = some (.slice A (one l).2.length c) := blk_cell hb 0
  have hfr : w1.frozen? ⟨g, 0, none⟩ = false := blk_frozen hb 0
  have hgl : g < w1.heap.size := blk_lt hb
  have hB1 : Below w0.heap.size w0 w1 := hB.grown hg1 hB.size (by rintro k ⟨⟩; exact hg)
  generalize hq : (one l).1 = q at *
  generalize hL : (one l).2 = L at *
  generalize hn' : txtN most l = n at *
  have Hq := Aside0.mk hq
  have HL := Aside0.mk hL
  have HS := Aside0.mk hs1
  have Hn' := Aside0.mk hn'
  clear hq hL hs1 hn'
  obtain ⟨m, hm'⟩ : ∃ m, m = q % (most + 1) := ⟨_, rfl⟩
  have em : (q : Int) % ((most : Int) + 1) = (m : Int) := by rw [hm']; rfl
  rw [← hm'] at hn
  have hm64 : m ≤ most := by have := Nat.mod_lt q (show 0 < most + 1 by omega); omega
  clear hm'
  have hcA : ∀ (k : Nat) (o : Obj), ((w1.drewN k).alloc o).cell? ⟨g, 0, none⟩ = some (.slice A L.length c) := fun k o => (World.cell?_alloc_lt _ _ _ hgl).trans hcell
  have hfA : ∀ (k : Nat) (o : Obj), ((w1.drewN k).alloc o).frozen? ⟨g, 0, none⟩ = false := fun k o => (World.frozen?_alloc_old _ _ _ (Nat.ne_of_lt hgl)).trans hfr
  have HA : ∀ k, k ≤ L.length → ReadsInt w1 .u8 A k ((ints L).take k) := fun k hk => by
    have hr1 := Kd.C_below hr hB1
    rw [← ints_len] at hr1
    have h := Kd.reads_of_C (d := 0) (Kd.C_take (m := k) hr1 (by rw [ints_len]; exact hk))
    rwa [List.length_take, ints_len, Nat.min_eq_left hk] at h
  have HA1 := Aside0.mk HA
  clear HA
  have hmn : Builtin.min2 (.int .i64 (m : Int)) (.int .i64 (L.length : Int)) = pure (.int .i64 (n : Int)) := by
    rw [min2_int]
    congr 2
    split <;> omega
  have hnl : n ≤ L.length := by omega
  have hn64 : n ≤ 64 := by omega
  clear hn
  go_wp2_with fail
  go_quiet (fail)
  go_wp2_with (at_builtin; refine print_append_row (w0 := w1) w1.heap.size rfl (.tmp 20) (.tmp 26) 22 5 .u8 1 rfl Tryd.underlying22 info5 (by decide) (.slice (some ⟨w1.heap.size, 0, none⟩) 0 0) [] ((ints L).take n) A n c rfl rfl (own_lit (w1.drewN nq) w1.heap.size 5 .u8 [] (Nat.le_refl _) (by simp)) ((HA1.out n hnl).below (below_alloc (pw_below_drewN (Below.refl _ _) _) _)) (below_alloc (pw_below_drewN (Below.refl _ _) _) _) (by simp) (by simp; omega) ?_; intro v1 w2 HO2 HB2 hg2 hat2; have hc2 : w2.cell? ⟨g, 0, none⟩ = some (.slice A L.length c) := (HB2.cell hgl).trans hcell; have hf2 : w2.frozen? ⟨g, 0, none⟩ = false := (HB2.frozen hgl).trans hfr; have hnl2 : (n : Int) ≤ L.length := by omega)
  all_goals go_ret
  all_goals exact ⟨v1, rfl, text_end HL.out Hn'.out hnl hc HS.out hb hr hg1 HB2 HO2 (by first | (rw [if_pos ‹c = n›, ‹c = n›]; simp; done) | (rw [if_neg ‹¬c = n›]; simp; done))⟩
end Go.Proofs.YtfjjikabinelgaaDoor
