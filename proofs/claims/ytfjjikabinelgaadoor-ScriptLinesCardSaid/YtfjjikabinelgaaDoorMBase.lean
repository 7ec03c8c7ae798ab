/- Walks of the script's reader: what each function computes. -/
import Derived.Test.YtfjjikabinelgaaDoorPScriptLinesx0
import Derived.Test.YtfjjikabinelgaaDoorMPlain
namespace Go.Proofs.YtfjjikabinelgaaDoor
open Go.RowKit Go.Proofs.YtfjjikabinelgaaDoorW.PrintWords Go.Proofs.YtfjjikabinelgaaDoorW.PrintLast Go.Proofs.YtfjjikabinelgaaDoorW.PrintMore Sc PScriptLines
set_option linter.unusedVariables false
set_option linter.unusedSimpArgs false

/-- Bytes as the printed words have them. -/
def ints (l : List UInt8) : List Int := l.map fun c => (c.toNat : Int)
theorem ints_len (l : List UInt8) : (ints l).length = l.length := by simp [ints]
theorem ints_app (l r : List UInt8) : ints (l ++ r) = ints l ++ ints r := by simp [ints]
theorem ints_take (l : List UInt8) (n : Nat) : ints (l.take n) = (ints l).take n := by simp [ints, List.map_take]
theorem ints_drop (l : List UInt8) (n : Nat) : ints (l.drop n) = (ints l).drop n := by simp [ints, List.map_drop]

/-- A slice's value has the bytes l in a world. -/
def By (w : World) (v : Value) (l : List UInt8) : Prop := ∃ A c, v = .slice A l.length c ∧ l.length ≤ c ∧ Kd.C (Kd.int .u8) w A l.length (ints l)
theorem By.below {w w1 : World} {v : Value} {l : List UInt8} (h : By w v l) (hb : Below w.heap.size w w1) : By w1 v l := by
  obtain ⟨A, c, e, hc, hr⟩ := h
  exact ⟨A, c, e, hc, Kd.C_below hr hb⟩
theorem By.nil (w : World) (A : Option Addr) (c : Nat) : By w (.slice A 0 c) [] := ⟨A, c, rfl, Nat.zero_le _, by
  refine ⟨rfl, by simp, fun h => absurd h (Nat.lt_irrefl 0)⟩⟩

theorem C_at {w : World} {A : Option Addr} {l : List UInt8} {c : UInt8} (h : Kd.C (Kd.int .u8) w A (c :: l).length (ints (c :: l))) : ∃ ad, A = some ad ∧ w.cell? ad = some (.int .u8 c.toNat) := by
  obtain ⟨ad, cs, e, _, hK, hc0⟩ := Kd.C_get h (0 : Int) 0 (by omega) (by simp)
  obtain rfl : cs = [.int .u8 (c.toNat : Int)] := hK
  refine ⟨ad, e, ?_⟩
  have := hc0 0 _ rfl
  simpa [Addr.add] using this

/-- Block g is a reader that has the bytes l; they lie as they lay in w0. -/
def Rd (w0 w : World) (g : Nat) (l : List UInt8) : Prop := ∃ v, w.heap[g]? = some (.cells #[v] 52 (0, 0)) ∧ By w0 v l

theorem one_nil (w : World) (g : Nat) (A : Option Addr) (c : Nat) (hb : w.heap[g]? = some (.cells #[.slice A 0 c] 52 (0, 0))) :
    Calls Tryd.prog 42 #[.pointer (some ⟨g, 0, none⟩)] w fun e w' => e = .returned (.int .i64 0) ∧ w' = w := by
  have hc : w.cell? ⟨g, 0, none⟩ = some (.slice A 0 c) := blk_cell hb 0
  go_enter Tryd.func42, Tryd.ntmps42
  go_wp2
  go_ret
  exact ⟨rfl, rfl⟩

theorem one_cons (w : World) (g : Nat) (ad : Addr) (n c : Nat) (v : Int) (h0 : 0 ≤ v) (h1 : v ≤ 255) (hb : w.heap[g]? = some (.cells #[.slice (some ad) (n + 1) c] 52 (0, 0))) (hv : w.cell? ad = some (.int .u8 v)) :
    Calls Tryd.prog 42 #[.pointer (some ⟨g, 0, none⟩)] w fun e w' => e = .returned (.int .i64 v) ∧ w' = w.setCell ⟨g, 0, none⟩ (.slice (if c = 1 then some ad else some (ad.add 1)) n (c - 1)) := by
  have hc : w.cell? ⟨g, 0, none⟩ = some (.slice (some ad) (n + 1) c) := blk_cell hb 0
  have hf : w.frozen? ⟨g, 0, none⟩ = false := blk_frozen hb 0
  have hl : (((n + 1 : Nat) : Int) == 0) = false := by simp; omega
  go_enter Tryd.func42, Tryd.ntmps42
  go_wp2
  all_goals (go_ret; exact ⟨rfl, rfl⟩)

theorem only_set {w : World} {g : Nat} (u : Value) : w.grownBy (w.setCell ⟨g, 0, none⟩ u) (some g) :=
  ⟨rfl, rfl, rfl, by simp [World.setCell], fun i hi hne => Below.heap_setCell w ⟨g, 0, none⟩ u i (fun e => hne (by rw [e]))⟩

theorem one_calls {w0 w : World} {g : Nat} {l : List UInt8} (h : Rd w0 w g l) (hB : Below w0.heap.size w0 w) :
    Calls Tryd.prog 42 #[.pointer (some ⟨g, 0, none⟩)] w fun e w' => e = .returned (.int .i64 (one l).1) ∧ Rd w0 w' g (one l).2 ∧ w.grownBy w' (some g) ∧ w'.heap.size = w.heap.size := by
  obtain ⟨v, hb, A, c, rfl, hc, hr⟩ := h
  cases l with
  | nil =>
    refine (one_nil w g A c hb).mono ?_
    rintro e w' ⟨rfl, rfl⟩
    exact ⟨rfl, ⟨_, hb, A, c, rfl, hc, hr⟩, World.grownBy.refl _ _, rfl⟩
  | cons x r =>
    obtain ⟨ad, rfl, hv⟩ := C_at hr
    have hx := x.toNat_lt
    refine (one_cons w g ad r.length c x.toNat (by omega) (by omega) hb (pw_cell_below hB hv)).mono ?_
    rintro e w' ⟨rfl, rfl⟩
    refine ⟨rfl, ⟨_, blk_set hb 0 _, ?_⟩, only_set _, by simp [World.setCell]⟩
    have hd := Kd.C_drop (k := Kd.int .u8) (c := c) (m := 1) (xs := ints (x :: r)) (by rw [ints_len]; exact hr) (by simp [ints]) (by rw [ints_len]; exact hc)
    refine ⟨_, _, rfl, by simp at hc; simp [one]; omega, ?_⟩
    have e1 : (ints (x :: r)).drop 1 = ints r := rfl
    rw [e1, ints_len] at hd
    exact hd
end Go.Proofs.YtfjjikabinelgaaDoor
namespace Go.Proofs.YtfjjikabinelgaaDoor
open Go.RowKit Go.Proofs.YtfjjikabinelgaaDoorW.PrintWords Go.Proofs.YtfjjikabinelgaaDoorW.PrintLast Go.Proofs.YtfjjikabinelgaaDoorW.PrintMore Sc PScriptLines
set_option linter.unusedVariables false
set_option linter.unusedSimpArgs false
attribute [local go_sem] min_two

theorem grown_of_below_grown {w w1 w2 : World} {g : Nat} (h : w.grownBy w1 (some g)) (k : Below w1.heap.size w1 w2) : w.grownBy w2 (some g) :=
  ⟨k.os.trans h.os, k.tape.trans h.tape, k.output.trans h.output, Nat.le_trans h.size k.size, fun i hi hne => (k.block i (Nat.lt_of_lt_of_le hi h.size)).trans (h.block i hi hne)⟩
theorem grown_set {w w1 : World} {g : Nat} (h : w.grownBy w1 (some g)) (u : Value) : w.grownBy (w1.setCell ⟨g, 0, none⟩ u) (some g) :=
  ⟨h.os, h.tape, h.output, by simpa [World.setCell] using h.size, fun i hi hne => (Below.heap_setCell w1 ⟨g, 0, none⟩ u i (fun e => hne (by rw [e]))).trans (h.block i hi hne)⟩

theorem text_end {w0 w w1 w2 : World} {g most n c : Nat} {l L : List UInt8} {A : Option Addr} {v1 u : Value} (hL : (one l).2 = L) (hn : txtN most l = n) (hnl : n ≤ L.length) (hc : L.length ≤ c) (hs : w1.heap.size = w.heap.size)
    (hb : w1.heap[g]? = some (.cells #[.slice A L.length c] 52 (0, 0))) (hr : (Kd.int .u8).C w0 A L.length (ints L)) (hg1 : w.grownBy w1 (some g)) (HB2 : Below w1.heap.size w1 w2)
    (HO2 : w2.ownsRow w1.heap.size 5 1 v1 ([] ++ List.take n (ints L)).length (nums .u8 ([] ++ List.take n (ints L))))
    (hu : u = .slice (if c = n then A else A.map (·.add (n * 1))) (L.length - n) (c - n)) :
    Rd w0 (w2.setCell ⟨g, 0, none⟩ u) g (txt most l).2 ∧ w.grownBy (w2.setCell ⟨g, 0, none⟩ u) (some g) ∧ (Kd.int .u8).R 5 (w2.setCell ⟨g, 0, none⟩ u) w.heap.size (fun _ => True) v1 (ints (txt most l).1) := by
  have e1 : (txt most l).1 = L.take n := by simp only [txt, hL, hn]
  have e2 : (txt most l).2 = L.drop n := by simp only [txt, hL, hn]
  have hgl : g < w1.heap.size := blk_lt hb
  have hb2 : w2.heap[g]? = some (.cells #[.slice A L.length c] 52 (0, 0)) := (HB2.block g hgl).trans hb
  rw [e1, e2]
  refine ⟨⟨u, blk_set hb2 0 u, _, c - n, by rw [List.length_drop]; exact hu, by rw [List.length_drop]; omega, ?_⟩, grown_set (grown_of_below_grown hg1 HB2) u, ?_⟩
  · have hd := Kd.C_drop (k := Kd.int .u8) (c := c) (m := n) (xs := ints L) (by rw [ints_len]; exact hr) (by rw [ints_len]; exact hnl) (by rw [ints_len]; exact hc)
    rw [← ints_drop, ints_len] at hd
    exact hd
  · rw [ints_take, ← hs]
    have h := Kd.R_of_own (enc := Value.int .u8) (h1 := fun _ => rfl) (e := 5) (ok := fun _ => True) HO2 (fun _ _ => trivial)
    exact Kd.R_set h hb2 (fun q hq => by simp [Kd.scalar] at hq; omega) 0 u

set_option maxHeartbeats 400000 in
theorem text_calls {w0 w : World} {g : Nat} {l : List UInt8} (most : Nat) (hm : most ≤ 63) (h : Rd w0 w g l) (hB : Below w0.heap.size w0 w) (hg : w0.heap.size ≤ g) :
    Calls Tryd.prog 43 #[.pointer (some ⟨g, 0, none⟩), .int .i64 most] w fun e w' => ∃ v, e = .returned v ∧ Rd w0 w' g (txt most l).2 ∧ w.grownBy w' (some g) ∧ Kd.R (Kd.int .u8) 5 w' w.heap.size (fun _ => True) v (ints (txt most l).1) := by
  go_enter Tryd.func43, Tryd.ntmps43
  go_wp2_with fail
  refine (one_calls h hB).mono ?_
  rintro e w1 ⟨rfl, h1, hg1, hs1⟩
  have h1l := one_lt l
  have hn : txtN most l = min ((one l).1 % (most + 1)) (one l).2.length := rfl
  obtain ⟨v, hb, A, c, rfl, hc, hr⟩ := h1
  have hcell : w1.cell? ⟨g, 0, none⟩ = some (.slice A (one l).2.length c) := blk_cell hb 0
  have hfr : w1.frozen? ⟨g, 0, none⟩ = false := blk_frozen hb 0
  have hgl : g < w1.heap.size := blk_lt hb
  have hB1 : Below w0.heap.size w0 w1 := hB.grown hg1 hB.size (by rintro k ⟨⟩; exact hg)
  generalize hq : (one l).1 = q at *
  generalize hL : (one l).2 = L at *
  generalize hn' : txtN most l = n at *
  have Hq := Aside0.mk hq
  have HL := Aside0.mk hL
  have HS := Aside0.mk hs1
  have Hn' := Aside0.mk hn'
  clear hq hL hs1 hn'
  obtain ⟨m, hm'⟩ : ∃ m, m = q % (most + 1) := ⟨_, rfl⟩
  have em : (q : Int) % ((most : Int) + 1) = (m : Int) := by rw [hm']; rfl
  rw [← hm'] at hn
  have hm64 : m ≤ most := by have := Nat.mod_lt q (show 0 < most + 1 by omega); omega
  clear hm'
  have hcA : ∀ (k : Nat) (o : Obj), ((w1.drewN k).alloc o).cell? ⟨g, 0, none⟩ = some (.slice A L.length c) := fun k o => (World.cell?_alloc_lt _ _ _ hgl).trans hcell
  have hfA : ∀ (k : Nat) (o : Obj), ((w1.drewN k).alloc o).frozen? ⟨g, 0, none⟩ = false := fun k o => (World.frozen?_alloc_old _ _ _ (Nat.ne_of_lt hgl)).trans hfr
  have HA : ∀ k, k ≤ L.length → ReadsInt w1 .u8 A k ((ints L).take k) := fun k hk => by
    have hr1 := Kd.C_below hr hB1
    rw [← ints_len] at hr1
    have h := Kd.reads_of_C (d := 0) (Kd.C_take (m := k) hr1 (by rw [ints_len]; exact hk))
    rwa [List.length_take, ints_len, Nat.min_eq_left hk] at h
  have HA1 := Aside0.mk HA
  clear HA
  have hmn : Builtin.min2 (.int .i64 (m : Int)) (.int .i64 (L.length : Int)) = pure (.int .i64 (n : Int)) := by
    rw [min2_int]
    congr 2
    split <;> omega
  have hnl : n ≤ L.length := by omega
  have hn64 : n ≤ 64 := by omega
  clear hn
  go_wp2_with fail
  go_quiet (fail)
  go_wp2_with (at_builtin; refine print_append_row (w0 := w1) w1.heap.size rfl (.tmp 20) (.tmp 26) 22 5 .u8 1 rfl Tryd.underlying22 info5 (by decide) (.slice (some ⟨w1.heap.size, 0, none⟩) 0 0) [] ((ints L).take n) A n c rfl rfl (own_lit (w1.drewN nq) w1.heap.size 5 .u8 [] (Nat.le_refl _) (by simp)) ((HA1.out n hnl).below (below_alloc (pw_below_drewN (Below.refl _ _) _) _)) (below_alloc (pw_below_drewN (Below.refl _ _) _) _) (by simp) (by simp; omega) ?_; intro v1 w2 HO2 HB2 hg2 hat2; have hc2 : w2.cell? ⟨g, 0, none⟩ = some (.slice A L.length c) := (HB2.cell hgl).trans hcell; have hf2 : w2.frozen? ⟨g, 0, none⟩ = false := (HB2.frozen hgl).trans hfr; have hnl2 : (n : Int) ≤ L.length := by omega)
  all_goals go_ret
  all_goals exact ⟨v1, rfl, text_end HL.out Hn'.out hnl hc HS.out hb hr hg1 HB2 HO2 (by first | (rw [if_pos ‹c = n›, ‹c = n›]; simp; done) | (rw [if_neg ‹¬c = n›]; simp; done))⟩
end Go.Proofs.YtfjjikabinelgaaDoor
namespace Go.Proofs.YtfjjikabinelgaaDoor
open Go.RowKit Go.Proofs.YtfjjikabinelgaaDoorW.PrintWords Go.Proofs.YtfjjikabinelgaaDoorW.PrintLast Go.Proofs.YtfjjikabinelgaaDoorW.PrintMore Sc PScriptLines
set_option linter.unusedVariables false
set_option linter.unusedSimpArgs false

/-- What a kind's step has, as a value. -/
def hv (k : Nat) : Array Value := #[.bool (sided k), .bool (hasN k), .bool (decide (k = 0)), .bool (decide (k = 7)), .bool (decide (k = 9)), .bool (hasD k)]

set_option maxHeartbeats 1000000 in
theorem parts_calls (k : Nat) (hk : k ≤ 9) (w : World) : Calls Tryd.prog 24 #[.int .u8 k] w fun e w' => e = .returned (.agg (hv k)) ∧ w' = w.alloc (.cells (hv k) 68) := by
  have hcase : k = 0 ∨ k = 1 ∨ k = 2 ∨ k = 3 ∨ k = 4 ∨ k = 5 ∨ k = 6 ∨ k = 7 ∨ k = 8 ∨ k = 9 := by omega
  rcases hcase with rfl | rfl | rfl | rfl | rfl | rfl | rfl | rfl | rfl | rfl
  all_goals (go_enter Tryd.func24, Tryd.ntmps24; go_wp2; refine bodyPost_ret (v := .agg (hv _)) (by simp [results, Tryd.results24, go_sem]; rfl) rfl ⟨rfl, rfl⟩)
theorem long_calls (k : Nat) (hk : k ≤ 9) (w : World) : Calls Tryd.prog 44 #[.int .u8 k] w fun e w' => e = .returned (.int .i64 (if k = 4 then 15 else if k = 6 then 7 else 63)) ∧ w' = w := by
  have : k = 0 ∨ k = 1 ∨ k = 2 ∨ k = 3 ∨ k = 4 ∨ k = 5 ∨ k = 6 ∨ k = 7 ∨ k = 8 ∨ k = 9 := by omega
  rcases this with rfl | rfl | rfl | rfl | rfl | rfl | rfl | rfl | rfl | rfl
  all_goals (go_enter Tryd.func44, Tryd.ntmps44; go_wp2; go_ret; exact ⟨rfl, rfl⟩)
end Go.Proofs.YtfjjikabinelgaaDoor
