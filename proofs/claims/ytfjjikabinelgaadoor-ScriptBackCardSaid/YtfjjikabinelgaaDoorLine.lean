/- Walks of the script's line: the next part, a number. -/
import Derived.Test.YtfjjikabinelgaaDoorLibC
import Derived.Test.YtfjjikabinelgaaDoorBytes
namespace Go.Proofs.YtfjjikabinelgaaDoor
open Go.RowKit Go.Proofs.YtfjjikabinelgaaDoorW.PrintWords Go.Proofs.YtfjjikabinelgaaDoorW.PrintLast Go.Proofs.YtfjjikabinelgaaDoorW.PrintMore Sc PScriptLines
set_option linter.unusedVariables false
set_option linter.unusedSimpArgs false

/-- Bytes as a string. -/
def str (l : List UInt8) : ByteArray := ⟨l.toArray⟩
theorem str_list (l : List UInt8) : (str l).data.toList = l := rfl
theorem str_size (l : List UInt8) : (str l).size = l.length := rfl
theorem str_toList (l : List UInt8) : (str l).toList = l := by rw [ByteArray.toList_eq]; rfl
theorem str_eq (s : ByteArray) : str s.data.toList = s := rfl

/-- Block g is a line with the parts p.1, spoilt or not; the parts lie as they lay in w0. -/
def Ln (w0 w : World) (g : Nat) (p : St) : Prop :=
  ∃ A c, w.heap[g]? = some (.cells #[.slice A p.1.length c, .bool p.2] 62 (0, 0)) ∧ p.1.length ≤ c ∧ Kd.C Kd.string w0 A (p.1.map str).length (p.1.map str)

theorem C_str {w : World} {A : Option Addr} {l : List (List UInt8)} {s : List UInt8} (h : Kd.C Kd.string w A ((s :: l).map str).length ((s :: l).map str)) : ∃ ad, A = some ad ∧ w.cell? ad = some (.string (str s)) := by
  obtain ⟨ad, cs, e, _, hK, hc0⟩ := Kd.C_get h (str []) 0 (by omega) (by simp)
  obtain rfl : cs = [.string (str s)] := hK
  refine ⟨ad, e, ?_⟩
  have := hc0 0 _ rfl
  simpa [Addr.add] using this

theorem next_nil (w : World) (g : Nat) (A : Option Addr) (c : Nat) (b : Bool) (hb : w.heap[g]? = some (.cells #[.slice A 0 c, .bool b] 62 (0, 0))) :
    Calls Tryd.prog 23 #[.pointer (some ⟨g, 0, none⟩)] w fun e w' => e = .returned (.string ⟨#[]⟩) ∧ w' = w.setCell ⟨g, 1, none⟩ (.bool true) := by
  have hc : w.cell? ⟨g, 0, none⟩ = some (.slice A 0 c) := blk_cell hb 0
  have hc1 : w.cell? ⟨g, 1, none⟩ = some (.bool b) := blk_cell hb 1
  have hf : w.frozen? ⟨g, 1, none⟩ = false := blk_frozen hb 1
  go_enter Tryd.func23, Tryd.ntmps23
  go_wp2
  go_ret
  exact ⟨rfl, rfl⟩

theorem next_cons (w : World) (g : Nat) (ad : Addr) (n c : Nat) (b : Bool) (s : ByteArray) (hb : w.heap[g]? = some (.cells #[.slice (some ad) (n + 1) c, .bool b] 62 (0, 0))) (hv : w.cell? ad = some (.string s)) :
    Calls Tryd.prog 23 #[.pointer (some ⟨g, 0, none⟩)] w fun e w' => e = .returned (.string s) ∧ w' = w.setCell ⟨g, 0, none⟩ (.slice (if c = 1 then some ad else some (ad.add 1)) n (c - 1)) := by
  have hc : w.cell? ⟨g, 0, none⟩ = some (.slice (some ad) (n + 1) c) := blk_cell hb 0
  have hf : w.frozen? ⟨g, 0, none⟩ = false := blk_frozen hb 0
  have hl : (((n + 1 : Nat) : Int) == 0) = false := by simp; omega
  go_enter Tryd.func23, Tryd.ntmps23
  go_wp2
  all_goals (go_ret; exact ⟨rfl, rfl⟩)

theorem only_setN {w : World} {g : Nat} (j : Nat) (u : Value) : w.grownBy (w.setCell ⟨g, j, none⟩ u) (some g) :=
  ⟨rfl, rfl, rfl, by simp [World.setCell], fun i hi hne => Below.heap_setCell w ⟨g, j, none⟩ u i (fun e => hne (by rw [e]))⟩

theorem next_calls {w0 w : World} {g : Nat} {p : St} (h : Ln w0 w g p) (hB : Below w0.heap.size w0 w) :
    Calls Tryd.prog 23 #[.pointer (some ⟨g, 0, none⟩)] w fun e w' => e = .returned (.string (str (nextP p).1)) ∧ Ln w0 w' g (nextP p).2 ∧ w.grownBy w' (some g) := by
  obtain ⟨l, b⟩ := p
  obtain ⟨A, c, hb, hc, hr⟩ := h
  cases l with
  | nil =>
    refine (next_nil w g A c b hb).mono ?_
    rintro e w' ⟨rfl, rfl⟩
    exact ⟨rfl, ⟨A, c, blk_set hb 1 _, Nat.zero_le _, hr⟩, only_setN _ _⟩
  | cons s r =>
    obtain ⟨ad, rfl, hv⟩ := C_str hr
    refine (next_cons w g ad r.length c b (str s) hb (pw_cell_below hB hv)).mono ?_
    rintro e w' ⟨rfl, rfl⟩
    refine ⟨rfl, ⟨_, c - 1, blk_set hb 0 _, by simp at hc; simp [nextP]; omega, ?_⟩, only_setN _ _⟩
    have hd := Kd.C_drop (k := Kd.string) (c := c) (m := 1) (xs := (s :: r).map str) hr (by simp) (by simpa using hc)
    exact hd

theorem below_only {w0 w w1 : World} {g : Nat} (hB : Below w0.heap.size w0 w) (hg : w0.heap.size ≤ g) (h : w.grownBy w1 (some g)) : Below w0.heap.size w0 w1 := hB.grown h hB.size (by rintro k ⟨⟩; exact hg)
theorem grown_trans' {w w1 w2 : World} {g : Nat} (h : w.grownBy w1 (some g)) (k : w1.grownBy w2 (some g)) : w.grownBy w2 (some g) :=
  ⟨k.os.trans h.os, k.tape.trans h.tape, k.output.trans h.output, Nat.le_trans h.size k.size, fun i hi hne => (k.block i (Nat.lt_of_lt_of_le hi h.size) hne).trans (h.block i hi hne)⟩
theorem grown_below' {w w1 w2 : World} {g : Nat} (h : w.grownBy w1 (some g)) (k : Below w1.heap.size w1 w2) : w.grownBy w2 (some g) :=
  ⟨k.os.trans h.os, k.tape.trans h.tape, k.output.trans h.output, Nat.le_trans h.size k.size, fun i hi hne => (k.block i (Nat.lt_of_lt_of_le hi h.size)).trans (h.block i hi hne)⟩

/-- Is the number of the size B told by the walks? -/
structure Size (B M : Nat) : Prop where
  inner : Inner B M
  pow : 2 ^ B - 1 = M
theorem size1 : Size 1 1 := ⟨inner1, by decide⟩
theorem size32 : Size 32 4294967295 := ⟨inner32, by decide⟩
theorem size60 : Size 60 1152921504606846975 := ⟨inner60, by decide⟩

theorem numV_lt {B M : Nat} (S : Size B M) (hM : M < 18446744073709551616) (s : List UInt8) : numV B s < 18446744073709551616 := by
  unfold numV
  cases hp : Lib.parseUintB B s with
  | ok u => have := Lib.parseUintB_le hp; rw [S.pow] at this; simp only; omega
  | range => simp only; rw [S.pow]; exact hM
  | _ => simp

theorem numBad_ne {B : Nat} {s : List UInt8} (h : ∀ u, Lib.parseUintB B s ≠ .ok u) : numBad B s = true := by
  unfold numBad
  cases hp : Lib.parseUintB B s with
  | ok u => exact absurd hp (h u)
  | _ => rfl

/-- What next tells, as a premise. -/
def Nx (w0 w : World) (g : Nat) (s : List UInt8) (q : St) : Prop :=
  Calls Tryd.prog 23 #[.pointer (some ⟨g, 0, none⟩)] w fun e w' => e = .returned (.string (str s)) ∧ Ln w0 w' g q ∧ w.grownBy w' (some g)

theorem ln_set {w0 w : World} {g : Nat} {ql : List (List UInt8)} {qb : Bool} (b : Bool) {A : Option Addr} {c : Nat} (hb : w.heap[g]? = some (.cells #[.slice A ql.length c, .bool qb] 62 (0, 0))) (hc : ql.length ≤ c) (hr : Kd.C Kd.string w0 A (ql.map str).length (ql.map str)) :
    Ln w0 (w.setCell ⟨g, 1, none⟩ (.bool b)) g (ql, b) := ⟨A, c, blk_set hb 1 _, hc, hr⟩

set_option maxHeartbeats 1000000 in
theorem number_spoilt {B M : Nat} (S : Size B M) {w0 w : World} {g : Nat} {s : List UInt8} {ql : List (List UInt8)} {u : Nat} (hn : Nx w0 w g s (ql, true)) (hB : Below w0.heap.size w0 w) (hg : w0.heap.size ≤ g) (he : Env w0) (hsz : s.length ≤ 281474976710656)
    (hu : Lib.parseUintB B s = .ok u) :
    Calls Tryd.prog 25 #[.pointer (some ⟨g, 0, none⟩), .int .i64 B] w fun e w' => e = .returned (.int .u64 u) ∧ Ln w0 w' g (ql, true) ∧ w.grownBy w' (some g) := by
  have HN := Aside0.mk hn
  have Hu := Aside0.mk hu
  clear hn hu
  go_enter Tryd.func25, Tryd.ntmps25
  go_wp2_with fail
  refine HN.out.mono ?_
  rintro e w1 ⟨rfl, ⟨A, c, hb, hc, hr⟩, hg1⟩
  have Hb := Aside0.mk hb
  have Hg1 := Aside0.mk hg1
  clear hb hg1
  go_wp2_with fail
  refine (parse_ok S.inner (str s) hsz _ u Hu.out).mono ?_
  rintro e w2 ⟨rfl, hb2⟩
  have hbk2 : w2.heap[g]? = some (.cells #[.slice A ql.length c, .bool true] 62 (0, 0)) := (hb2.block g (blk_lt Hb.out)).trans Hb.out
  have hc2 : w2.cell? ⟨g, 1, none⟩ = some (.bool true) := blk_cell hbk2 1
  have hf2 : w2.frozen? ⟨g, 1, none⟩ = false := blk_frozen hbk2 1
  have Hb2 := Aside0.mk hb2
  have Hbk2 := Aside0.mk hbk2
  clear hb2 hbk2
  go_wp2_with fail
  go_ret
  exact ⟨rfl, ln_set true Hbk2.out hc hr, grown_trans' (grown_below' Hg1.out Hb2.out) (only_setN _ _)⟩

set_option maxHeartbeats 1000000 in
theorem number_fine {B M : Nat} (S : Size B M) (hM : M < 18446744073709551616) {w0 w : World} {g : Nat} {s : List UInt8} {ql : List (List UInt8)} {u : Nat} (hn : Nx w0 w g s (ql, false)) (hB : Below w0.heap.size w0 w) (hg : w0.heap.size ≤ g) (he : Env w0) (hsz : s.length ≤ 281474976710656)
    (hu : Lib.parseUintB B s = .ok u) :
    Calls Tryd.prog 25 #[.pointer (some ⟨g, 0, none⟩), .int .i64 B] w fun e w' => e = .returned (.int .u64 u) ∧ Ln w0 w' g (ql, !decide (Lib.decDigits u = s)) ∧ w.grownBy w' (some g) := by
  have hu64 : u < 18446744073709551616 := by have := Lib.parseUintB_le hu; rw [S.pow] at this; omega
  have HN := Aside0.mk hn
  have Hu := Aside0.mk hu
  have HBB := Aside0.mk hB
  clear hn hu hB
  go_enter Tryd.func25, Tryd.ntmps25
  go_wp2_with fail
  refine HN.out.mono ?_
  rintro e w1 ⟨rfl, ⟨A, c, hb, hc, hr⟩, hg1⟩
  have hB1 := Aside0.mk (below_only HBB.out hg hg1)
  have hE1 := Aside0.mk (he.below hB1.out)
  have Hb := Aside0.mk hb
  have Hg1 := Aside0.mk hg1
  clear hb hg1
  go_wp2_with fail
  refine (parse_ok S.inner (str s) hsz _ u Hu.out).mono ?_
  rintro e w2 ⟨rfl, hb2⟩
  have hbk2 : w2.heap[g]? = some (.cells #[.slice A ql.length c, .bool false] 62 (0, 0)) := (hb2.block g (blk_lt Hb.out)).trans Hb.out
  have hc2 : w2.cell? ⟨g, 1, none⟩ = some (.bool false) := blk_cell hbk2 1
  have Hb2 := Aside0.mk hb2
  have Hbk2 := Aside0.mk hbk2
  have HT := Aside0.mk (hE1.out.below hb2).pow10
  clear hb2 hbk2
  go_wp2_with fail
  refine (format_calls u hu64 _ HT.out).mono ?_
  rintro e w3 ⟨rfl, hb3⟩
  have hbk3 : w3.heap[g]? = some (.cells #[.slice A ql.length c, .bool false] 62 (0, 0)) := (hb3.block g (blk_lt Hbk2.out)).trans Hbk2.out
  have hc3 : w3.cell? ⟨g, 1, none⟩ = some (.bool false) := blk_cell hbk3 1
  have hf3 : w3.frozen? ⟨g, 1, none⟩ = false := blk_frozen hbk3 1
  have Hb3 := Aside0.mk hb3
  have Hbk3 := Aside0.mk hbk3
  clear hb3 hbk3 hc2
  go_wp2_with fail
  go_ret
  rw [str_toList, show (!Lib.decDigits u == s) = !decide (Lib.decDigits u = s) from by rw [show (Lib.decDigits u == s) = decide (Lib.decDigits u = s) from by rw [Bool.eq_iff_iff]; simp]]
  exact ⟨rfl, ln_set _ Hbk3.out hc hr, grown_trans' (grown_below' (grown_below' Hg1.out Hb2.out) Hb3.out) (only_setN _ _)⟩

set_option maxHeartbeats 1000000 in
theorem number_bad {B M : Nat} (S : Size B M) {w0 w : World} {g : Nat} {s : List UInt8} {ql : List (List UInt8)} {qb : Bool} (hn : Nx w0 w g s (ql, qb)) (hB : Below w0.heap.size w0 w) (hg : w0.heap.size ≤ g) (he : Env w0) (hsz : s.length ≤ 281474976710656)
    (hu : ∀ u, Lib.parseUintB B s ≠ .ok u) :
    Calls Tryd.prog 25 #[.pointer (some ⟨g, 0, none⟩), .int .i64 B] w fun e w' => e = .returned (.int .u64 (numV B s)) ∧ Ln w0 w' g (ql, true) ∧ w.grownBy w' (some g) := by
  have HN := Aside0.mk hn
  have Hu := Aside0.mk hu
  have HBB := Aside0.mk hB
  generalize hv : numV B s = v
  have Hv := Aside0.mk hv
  clear hn hu hB hv
  cases qb
  all_goals
    go_enter Tryd.func25, Tryd.ntmps25
    go_wp2_with fail
    refine HN.out.mono ?_
    rintro e w1 ⟨rfl, ⟨A, c, hb, hc, hr⟩, hg1⟩
    have hB1 := Aside0.mk (below_only HBB.out hg hg1)
    have hE1 := Aside0.mk (he.below hB1.out)
    have Hb := Aside0.mk hb
    have Hg1 := Aside0.mk hg1
    clear hb hg1
    go_wp2_with fail
    have hp := parse_bad S.inner S.pow (str s) hsz w1 hE1.out Hu.out
    rw [str_list, Hv.out] at hp
    refine hp.mono ?_
    rintro e w2 ⟨pp, rfl, hb2⟩
    clear hp
    have hbk2 := (hb2.block g (blk_lt Hb.out)).trans Hb.out
    have hc2 := blk_cell hbk2 1
    have hf2 : w2.frozen? ⟨g, 1, none⟩ = false := blk_frozen hbk2 1
    simp only [List.getElem?_toArray, List.getElem?_cons_succ, List.getElem?_cons_zero] at hc2
    have Hb2 := Aside0.mk hb2
    have Hbk2 := Aside0.mk hbk2
    clear hb2 hbk2
    go_wp2_with fail
    go_ret
    exact ⟨rfl, ln_set true Hbk2.out hc hr, grown_trans' (grown_below' Hg1.out Hb2.out) (only_setN _ _)⟩

theorem number_calls {B M : Nat} (S : Size B M) (hM : M < 18446744073709551616) {w0 w : World} {g : Nat} {p : St} (h : Ln w0 w g p) (hB : Below w0.heap.size w0 w) (hg : w0.heap.size ≤ g) (he : Env w0) (hsz : (nextP p).1.length ≤ 281474976710656) :
    Calls Tryd.prog 25 #[.pointer (some ⟨g, 0, none⟩), .int .i64 B] w fun e w' => e = .returned (.int .u64 (numberP B p).1) ∧ Ln w0 w' g (numberP B p).2 ∧ w.grownBy w' (some g) := by
  have hn : Nx w0 w g (nextP p).1 (nextP p).2 := next_calls h hB
  have eP : numberP B p = (numV B (nextP p).1, ((nextP p).2.1, (nextP p).2.2 || numBad B (nextP p).1)) := rfl
  rw [eP]
  generalize (nextP p).1 = s at *
  generalize (nextP p).2 = q at *
  obtain ⟨ql, qb⟩ := q
  by_cases hok : ∃ u, Lib.parseUintB B s = .ok u
  · obtain ⟨u, hu⟩ := hok
    have hV : numV B s = u := by unfold numV; rw [hu]
    have hBd : numBad B s = !decide (Lib.decDigits u = s) := by unfold numBad; rw [hu]
    simp only [hV, hBd]
    cases qb
    · exact number_fine S hM hn hB hg he hsz hu
    · exact number_spoilt S hn hB hg he hsz hu
  · have hbad : ∀ u, Lib.parseUintB B s ≠ .ok u := fun u hu => hok ⟨u, hu⟩
    simp only [numBad_ne hbad, Bool.or_true]
    exact number_bad S hn hB hg he hsz hbad
end Go.Proofs.YtfjjikabinelgaaDoor
