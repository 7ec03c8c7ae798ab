/- Walks of the script's Parse, step and Decode. -/
import Derived.Test.YtfjjikabinelgaaDoorMPart
import Derived.Test.YtfjjikabinelgaaDoorMBase
import Derived.Deep.DeepCutAuto
import Derived.Deep.CutBlock
namespace Go.Proofs.YtfjjikabinelgaaDoor
open Go.RowKit Go.Maps Go.Proofs.YtfjjikabinelgaaDoorW.PrintWords Sc PScriptLines
set_option linter.unusedVariables false
set_option linter.unusedSimpArgs false

/-- A step's cells. -/
def cells7 (k s : Nat) (n : Int) (d : Nat) (e : Bool) (p : List UInt8) (v : Value) : Array Value := #[.int .u8 k, .int .u8 s, .int .i64 n, .int .u32 d, .bool e, .string (str p), v]

def s33 (x : Stp) : S33 := ⟨x.kind, x.side, x.n, x.draw, x.done, str x.path, ints x.data⟩

theorem split32 (l : List UInt8) (hl : l.length ≤ 1000000) : (spl 32 l).length ≤ 1000001 ∧ (nextP (spl 32 l, false)).1.length ≤ 1000000 := by
  have h1 := spl_len 32 l
  have h2 : l.count 32 ≤ l.length := List.count_le_length
  refine ⟨by omega, ?_⟩
  cases hs : spl 32 l with
  | nil => exact absurd hs (spl_ne 32 l)
  | cons s r =>
    simp only [nextP]
    have hj := joinc_spl 32 l
    rw [hs] at hj
    have : s.length ≤ l.length := by
      rw [← hj]
      cases r with
      | nil => exact Nat.le_refl _
      | cons y t => rw [joinc_cons 32 s (by simp)]; simp
    omega

/-- strings.Split, the world behind it a name. -/
theorem split_named (c : UInt8) (l : List UInt8) (hl : l.length ≤ 1000000) (w : World) (he : Env w) :
    Calls Tryd.prog 21 #[.string (str l), .string (str [c])] w fun e w' => ∃ b, e = .returned (.slice (some ⟨b, 0, none⟩) (spl c l).length (spl c l).length) ∧ Below w.heap.size w w' ∧ w.heap.size < w'.heap.size ∧ Kd.C Kd.string w' (some ⟨b, 0, none⟩) ((spl c l).map str).length ((spl c l).map str) := by
  refine (split_calls c l (by omega) w he).mono ?_
  rintro e w' ⟨rfl, rfl⟩
  have h1 := spl_len c l
  have h2 : l.count c ≤ l.length := List.count_le_length
  exact ⟨_, rfl, (Below.refl _ _).alloc (Nat.le_refl _) _, by simp, strs_reads w _ (by omega)⟩

def zero33 : Array Value := cells7 0 0 0 0 false [] (.slice none 0 0)

/-- What Parse tells of a line. -/
def ParseP (w : World) (r : Option Stp) (e : Ending) (w' : World) : Prop :=
  ∃ cs : List Value, e = .returned (.tuple #[.agg cs.toArray, .int .i64 (if r.isSome then 0 else 60)]) ∧ k33.M w' w.heap.size (fun _ => True) (s33 (r.getD Stp.nil)) cs ∧ Below w.heap.size w w'

theorem parseP_none {w w' : World} (hb : Below w.heap.size w w') : ParseP w none (.returned (.tuple #[.agg zero33, .int .i64 60])) w' :=
  ⟨zero33.toList, rfl, k33_mkM w' _ _ (s33 Stp.nil) (v6 := .slice none 0 0) (Kd.R_nil _ _ _ _ _), hb⟩

/-- Are the parts short? -/
def Sm (p : St) : Prop := ∀ s ∈ p.1, s.length ≤ 1000000
theorem Sm.len {p : St} (h : Sm p) : (nextP p).1.length ≤ 1000000 := by
  obtain ⟨l, b⟩ := p
  cases l with
  | nil => simp [nextP]
  | cons s r => exact h s (by simp)
theorem Sm.next {p : St} (h : Sm p) : Sm (nextP p).2 := by
  obtain ⟨l, b⟩ := p
  cases l with
  | nil => intro s hs; simp [nextP] at hs
  | cons s r => exact fun t ht => h t (List.mem_cons_of_mem _ ht)
theorem Sm.bytes {p : St} (h : Sm p) : Sm (bytesP p).2 := by
  unfold bytesP
  split
  · exact h.next
  · exact h.next
theorem spl_small (c : UInt8) (l : List UInt8) : ∀ s ∈ spl c l, s.length ≤ l.length := by
  induction l with
  | nil => intro s hs; simp [spl] at hs; simp [hs]
  | cons y r ih =>
    intro s hs
    unfold spl at hs
    split at hs
    · rcases List.mem_cons.1 hs with rfl | hs
      · simp
      · have := ih s hs; simp; omega
    · have hne := spl_ne c r
      cases hr : spl c r with
      | nil => exact absurd hr hne
      | cons z t =>
        rw [hr] at hs ih
        rcases List.mem_cons.1 hs with rfl | hs
        · have := ih z (by simp); simp; omega
        · have := ih s (by simp at hs; simp [hs]); simp; omega

/-- How Parse's blocks lie: the line at w1's end, the step x, what it has h, the result r. -/
structure PS (w1 : World) (x h r k : Nat) (w : World) (q : St) (cs : Array Value) : Prop where
  ln : Ln w1 w w1.heap.size q
  xb : w.heap[x]? = some (.cells cs 33 (0, 0))
  hb : w.heap[h]? = some (.cells (hv k) 68 (0, 0))
  rb : w.heap[r]? = some (.cells zero33 33 (0, 0))
  bel : Below w1.heap.size w1 w
  sm : Sm q
  rg : r < w1.heap.size
  gx : w1.heap.size < x
  xh : x < h

theorem PS.glt {w1 w : World} {x h r k : Nat} {q : St} {cs : Array Value} (H : PS w1 x h r k w q cs) : w1.heap.size < w.heap.size := by
  have := blk_lt H.xb
  have := H.gx
  omega
theorem PS.only {w1 w w2 : World} {x h r k : Nat} {q q2 : St} {cs : Array Value} (H : PS w1 x h r k w q cs) (hl : Ln w1 w2 w1.heap.size q2) (hg : w.grownBy w2 (some w1.heap.size)) (hs : Sm q2) : PS w1 x h r k w2 q2 cs := by
  have h1 := H.rg
  have h2 := H.gx
  have h3 := H.xh
  exact ⟨hl, blk_grown H.xb hg (by simp; omega), blk_grown H.hb hg (by simp; omega), blk_grown H.rb hg (by simp; omega), below_only H.bel (Nat.le_refl _) hg, hs, H.rg, H.gx, H.xh⟩
theorem PS.below {w1 w w2 : World} {x h r k : Nat} {q : St} {cs : Array Value} (H : PS w1 x h r k w q cs) (hb : Below w.heap.size w w2) : PS w1 x h r k w2 q cs := by
  obtain ⟨A, c, h1, h2, h3⟩ := H.ln
  exact ⟨⟨A, c, (hb.block _ (blk_lt h1)).trans h1, h2, h3⟩, (hb.block _ (blk_lt H.xb)).trans H.xb, (hb.block _ (blk_lt H.hb)).trans H.hb, (hb.block _ (blk_lt H.rb)).trans H.rb, H.bel.trans (hb.mono H.bel.size), H.sm, H.rg, H.gx, H.xh⟩
theorem PS.put {w1 w : World} {x h r k : Nat} {q : St} {cs : Array Value} (H : PS w1 x h r k w q cs) (j : Nat) (u : Value) : PS w1 x h r k (w.setCell ⟨x, j, none⟩ u) q (cs.setIfInBounds j u) := by
  obtain ⟨A, c, h1, h2, h3⟩ := H.ln
  have e1 := H.rg
  have e2 := H.gx
  have e3 := H.xh
  exact ⟨⟨A, c, blk_far h1 (by simp; omega) u, h2, h3⟩, blk_set H.xb j u, blk_far H.hb (by simp; omega) u, blk_far H.rb (by simp; omega) u, H.bel.setCell (by simp; omega) u, H.sm, H.rg, H.gx, H.xh⟩
theorem PS.flag {w1 w : World} {x h r k : Nat} {ql : List (List UInt8)} {qb : Bool} {cs : Array Value} (H : PS w1 x h r k w (ql, qb) cs) (b : Bool) : PS w1 x h r k (w.setCell ⟨w1.heap.size, 1, none⟩ (.bool b)) (ql, b) cs := by
  obtain ⟨A, c, h1, h2, h3⟩ := H.ln
  have e1 := H.rg
  have e2 := H.gx
  have e3 := H.xh
  exact ⟨ln_set b h1 h2 h3, blk_far H.xb (by simp; omega) _, blk_far H.hb (by simp; omega) _, blk_far H.rb (by simp; omega) _, H.bel.setCell (Nat.le_refl _) _, H.sm, H.rg, H.gx, H.xh⟩

theorem numV_small {B M : Nat} (S : Size B M) (s : List UInt8) : numV B s ≤ M := by
  unfold numV
  cases hp : Lib.parseUintB B s with
  | ok u => have := Lib.parseUintB_le hp; rw [S.pow] at this; exact this
  | range => simp only; rw [S.pow]; exact Nat.le_refl _
  | _ => simp

def k0 (k : Nat) : Bool := decide (k = 0)
def k7 (k : Nat) : Bool := decide (k = 7)
def k9 (k : Nat) : Bool := decide (k = 9)
theorem parts_calls2 (k : Nat) (hk : k ≤ 9) (w : World) : Calls Tryd.prog 24 #[.int .u8 k] w fun e w' => e = .returned (.agg #[.bool (sided k), .bool (hasN k), .bool (k0 k), .bool (k7 k), .bool (k9 k), .bool (hasD k)]) ∧ w' = w.alloc (.cells #[.bool (sided k), .bool (hasN k), .bool (k0 k), .bool (k7 k), .bool (k9 k), .bool (hasD k)] 68) := parts_calls k hk w

/-- Seven stores in a row. -/
def put7 (w : World) (r : Nat) (a b c d e f g : Value) : World :=
  ((((((w.setCell ⟨r, 0, none⟩ a).setCell ⟨r, 1, none⟩ b).setCell ⟨r, 2, none⟩ c).setCell ⟨r, 3, none⟩ d).setCell ⟨r, 4, none⟩ e).setCell ⟨r, 5, none⟩ f).setCell ⟨r, 6, none⟩ g
theorem put7_blk {w : World} {r : Nat} (h : w.heap[r]? = some (.cells zero33 33 (0, 0))) (a b c d e f g : Value) : (put7 w r a b c d e f g).heap[r]? = some (.cells #[a, b, c, d, e, f, g] 33 (0, 0)) :=
  blk_set (blk_set (blk_set (blk_set (blk_set (blk_set (blk_set h 0 a) 1 b) 2 c) 3 d) 4 e) 5 f) 6 g
theorem put7_below {w0 w : World} {B r : Nat} (h : Below B w0 w) (hr : B ≤ r) (a b c d e f g : Value) : Below B w0 (put7 w r a b c d e f g) :=
  ((((((h.setCell hr a).setCell hr b).setCell hr c).setCell hr d).setCell hr e).setCell hr f).setCell hr g
theorem put7_far {w : World} {r k : Nat} (hk : k ≠ r) (a b c d e f g : Value) : (put7 w r a b c d e f g).heap[k]? = w.heap[k]? := by
  unfold put7
  repeat rw [Below.heap_setCell _ _ _ _ (by simpa using hk)]

set_option maxHeartbeats 2000000 in
set_option maxRecDepth 100000 in
theorem parse_calls (l : List UInt8) (hl : l.length ≤ 1000000) (w : World) (he : Env w) :
    Calls Tryd.prog 12 #[.string (str l)] w fun e w' => ParseP w (parseS l) e w' := by
  have hs32 := split32 l hl
  have HSM0 : Aside0 (Sm (spl 32 l, false)) := Aside0.mk (fun s hs => Nat.le_trans (spl_small 32 l s hs) hl)
  have HSM1 : Aside0 (Sm (nextP (spl 32 l, false)).2) := Aside0.mk HSM0.out.next
  have HE := Aside0.mk he
  clear he
  go_enter Tryd.func12, Tryd.ntmps12
  go_wp2_with fail
  refine (split_named 32 l hl _ (HE.out.below ((Below.refl _ _).alloc (Nat.le_refl _) _))).mono ?_
  rintro e w1 ⟨b1, rfl, hb1, hs1, hC1⟩
  have HB1 : Aside0 (Below w.heap.size w w1) := Aside0.mk (((Below.refl _ _).alloc (Nat.le_refl _) _).trans (hb1.mono (by simp)))
  have HZ : Aside0 (w1.heap[w.heap.size]? = some (.cells zero33 33 (0, 0))) := Aside0.mk ((hb1.block _ (by simp)).trans (heap_alloc_new w _))
  have HC1 := Aside0.mk hC1
  have hs1' : w.heap.size + 1 < w1.heap.size := by simpa using hs1
  clear hb1 hC1 hs1
  go_wp2_with fail
  have HL : Aside0 (Ln w1 (w1.alloc (.cells #[.slice (some ⟨b1, 0, none⟩) (spl 32 l).length (spl 32 l).length, .bool false] 62)) w1.heap.size (spl 32 l, false)) := Aside0.mk
    ⟨some ⟨b1, 0, none⟩, (spl 32 l).length, heap_alloc_new w1 _, Nat.le_refl _, HC1.out⟩
  have HW : Aside0 (Below w1.heap.size w1 (w1.alloc (.cells #[.slice (some ⟨b1, 0, none⟩) (spl 32 l).length (spl 32 l).length, .bool false] 62))) := Aside0.mk ((Below.refl _ _).alloc (Nat.le_refl _) _)
  generalize w1.alloc (.cells #[.slice (some ⟨b1, 0, none⟩) (spl 32 l).length (spl 32 l).length, .bool false] 62) = w2 at *
  refine (kinds_calls w2).mono ?_
  rintro e w3 ⟨rfl, hown, hb3⟩
  have hg2 : w1.heap.size < w2.heap.size := by
    obtain ⟨A, c, hb, _⟩ := HL.out
    exact blk_lt hb
  have HL3 : Aside0 (Ln w1 w3 w1.heap.size (spl 32 l, false)) := Aside0.mk (by
    obtain ⟨A, c, hb, hc, hr⟩ := HL.out
    exact ⟨A, c, (hb3.block _ hg2).trans hb, hc, hr⟩)
  have HW3 : Aside0 (Below w1.heap.size w1 w3) := Aside0.mk (HW.out.trans (hb3.mono HW.out.size))
  have HO3 := Aside0.mk hown
  clear hown hb3 HL HW
  go_wp2_with fail
  refine (next_calls HL3.out HW3.out).mono ?_
  rintro e w4 ⟨rfl, hL4, hg4⟩
  have HO4 : Aside0 (w4.ownsMap Tryd.prog 9 (plainElem Tryd.prog 5) w2.heap.size 10 (Dk 10)) := Aside0.mk (HO3.out.kept hg4 (by intro e; injection e with e; omega))
  have HW4 : Aside0 (Below w1.heap.size w1 w4) := Aside0.mk (below_only HW3.out (Nat.le_refl _) hg4)
  have HL4 := Aside0.mk hL4
  clear hL4 hg4 HL3 HW3 HO3
  have hsz : (str (nextP (spl 32 l, false)).1).size ≤ maxLen := by rw [str_size]; unfold maxLen; omega
  have HKEY := Aside0.mk (show keyOf Tryd.prog 9 (.string (str (nextP (spl 32 l, false)).1)) = some (.string (nextP (spl 32 l, false)).1) from WideMaps.keyOf_string_mk Tryd.underlying9 hsz)
  have HLOOK := Aside0.mk (look_Dk (nextP (spl 32 l, false)).1)
  clear hsz
  generalize hpq : parseS l = pq
  have HPQ := Aside0.mk hpq
  clear hpq
  generalize hs : (nextP (spl 32 l, false)).1 = s at *
  generalize hp : (nextP (spl 32 l, false)).2 = p1 at *
  have HS := Aside0.mk hs
  have HP := Aside0.mk hp
  clear hs hp
  have hlt4 : w.heap.size < w1.heap.size := by omega
  have hr4 : w4.heap[w.heap.size]? = some (.cells zero33 33 (0, 0)) := (HW4.out.block _ hlt4).trans HZ.out
  have HR4 := Aside0.mk hr4
  have z0 : w4.cell? ⟨w.heap.size, 0, none⟩ = some (.int .u8 0) := blk_cell hr4 0
  have z1 : w4.cell? ⟨w.heap.size, 1, none⟩ = some (.int .u8 0) := blk_cell hr4 1
  have z2 : w4.cell? ⟨w.heap.size, 2, none⟩ = some (.int .i64 0) := blk_cell hr4 2
  have z3 : w4.cell? ⟨w.heap.size, 3, none⟩ = some (.int .u32 0) := blk_cell hr4 3
  have z4 : w4.cell? ⟨w.heap.size, 4, none⟩ = some (.bool false) := blk_cell hr4 4
  have z5 : w4.cell? ⟨w.heap.size, 5, none⟩ = some (.string ⟨#[]⟩) := blk_cell hr4 5
  have z6 : w4.cell? ⟨w.heap.size, 6, none⟩ = some (.slice none 0 0) := blk_cell hr4 6
  have f0 : w4.frozen? ⟨w.heap.size, 0, none⟩ = false := blk_frozen hr4 0
  have f1 : w4.frozen? ⟨w.heap.size, 1, none⟩ = false := blk_frozen hr4 1
  have f2 : w4.frozen? ⟨w.heap.size, 2, none⟩ = false := blk_frozen hr4 2
  have f3 : w4.frozen? ⟨w.heap.size, 3, none⟩ = false := blk_frozen hr4 3
  have f4 : w4.frozen? ⟨w.heap.size, 4, none⟩ = false := blk_frozen hr4 4
  have f5 : w4.frozen? ⟨w.heap.size, 5, none⟩ = false := blk_frozen hr4 5
  have f6 : w4.frozen? ⟨w.heap.size, 6, none⟩ = false := blk_frozen hr4 6
  clear hr4
  cases hk : kindOf s with
  | none =>
    have epq : pq = none := by rw [← HPQ.out]; unfold parseS; rw [HS.out, hk]
    subst epq
    rw [hk] at HLOOK
    clear hk
    go_wp2_with (at_lookup; refine wpList_lookup_own_ok_int _ rfl _ _ 64 rfl 9 5 .u8 law9 Tryd.underlying64 Tryd.underlying5 (zero5 _) w2.heap.size 10 (Dk 10) rfl HO4.out _ _ rfl HKEY.out ?_; intro c hat hwc; rw [HLOOK.out.1]; rw [HLOOK.out.2] at hat; (obtain rfl : (0 : Int) = c := by injection hat with hat; injection hat); clear hat)
    have hb5 := put7_blk HR4.out (.int .u8 0) (.int .u8 0) (.int .i64 0) (.int .u32 0) (.bool false) (.string ⟨#[]⟩) (.slice none 0 0)
    have HB5 : Below w.heap.size w (put7 w4 w.heap.size (.int .u8 0) (.int .u8 0) (.int .i64 0) (.int .u32 0) (.bool false) (.string ⟨#[]⟩) (.slice none 0 0)) := put7_below (HB1.out.trans (HW4.out.mono (by omega))) (Nat.le_refl _) _ _ _ _ _ _ _
    clear z0 z1 z2 z3 z4 z5 z6 f0 f1 f2 f3 f4 f5 f6
    unfold put7 at hb5 HB5
    generalize (((((((w4.setCell ⟨w.heap.size, 0, none⟩ (Value.int IntKind.u8 0)).setCell ⟨w.heap.size, 1, none⟩ (Value.int IntKind.u8 0)).setCell ⟨w.heap.size, 2, none⟩ (Value.int IntKind.i64 0)).setCell ⟨w.heap.size, 3, none⟩ (Value.int IntKind.u32 0)).setCell ⟨w.heap.size, 4, none⟩ (Value.bool false)).setCell ⟨w.heap.size, 5, none⟩ (Value.string ⟨#[]⟩)).setCell ⟨w.heap.size, 6, none⟩ (Value.slice none 0 0)) = w5 at *
    have z0 : w5.cell? ⟨w.heap.size, 0, none⟩ = some (.int .u8 0) := blk_cell hb5 0
    have z1 : w5.cell? ⟨w.heap.size, 1, none⟩ = some (.int .u8 0) := blk_cell hb5 1
    have z2 : w5.cell? ⟨w.heap.size, 2, none⟩ = some (.int .i64 0) := blk_cell hb5 2
    have z3 : w5.cell? ⟨w.heap.size, 3, none⟩ = some (.int .u32 0) := blk_cell hb5 3
    have z4 : w5.cell? ⟨w.heap.size, 4, none⟩ = some (.bool false) := blk_cell hb5 4
    have z5 : w5.cell? ⟨w.heap.size, 5, none⟩ = some (.string ⟨#[]⟩) := blk_cell hb5 5
    have z6 : w5.cell? ⟨w.heap.size, 6, none⟩ = some (.slice none 0 0) := blk_cell hb5 6
    refine bodyPost_ret (v := .tuple #[.agg zero33, .int .i64 60]) (by simp [results, Tryd.results12, go_sem, z0, z1, z2, z3, z4, z5, z6] <;> rfl) rfl ?_
    rw [HPQ.out]
    exact parseP_none HB5
  | some k =>
    have hk9 := (word_kindOf hk).2
    rw [hk] at HLOOK
    clear z0 z1 z2 z3 z4 z5 z6 f0 f1 f2 f3 f4 f5 f6
    have HPK : Aside0 (parseS l = (let s := stSide k p1; let n := stN k s.2; let d := stDraw k n.2; let e := stDone k d.2; let p := stPath k e.2; let b := stData k p.2; if b.2.2 || !b.2.1.isEmpty then none else some ⟨k, s.1, n.1, d.1, e.1, p.1, b.1⟩)) := Aside0.mk (by
      unfold parseS
      rw [HS.out, HP.out, hk])
    clear hk
    go_upto_if 28 with (first | (at_lookup; refine wpList_lookup_own_ok_int _ rfl _ _ 64 rfl 9 5 .u8 law9 Tryd.underlying64 Tryd.underlying5 (zero5 _) w2.heap.size 10 (Dk 10) rfl HO4.out _ _ rfl HKEY.out ?_; intro c hat hwc; rw [HLOOK.out.1]; rw [HLOOK.out.2] at hat; (obtain rfl : (k : Int) = c := by injection hat with hat; injection hat); clear hat hwc) | (go_at_call 24; refine (parts_calls2 k hk9 _).mono ?_; rintro e w5 ⟨rfl, rfl⟩))
    have HPS : Aside0 (PS w1 w4.heap.size (w4.heap.size + 1 + 1) w.heap.size k (((w4.alloc (.cells #[.int .u8 k, .int .u8 0, .int .i64 0, .int .u32 0, .bool false, .string ⟨#[]⟩, .slice none 0 0] 33)).alloc (.cells #[.bool (sided k), .bool (hasN k), .bool (k0 k), .bool (k7 k), .bool (k9 k), .bool (hasD k)] 68)).alloc (.cells #[.bool (sided k), .bool (hasN k), .bool (k0 k), .bool (k7 k), .bool (k9 k), .bool (hasD k)] 68)) p1 (cells7 k 0 0 0 false [] (.slice none 0 0))) := Aside0.mk (by
      obtain ⟨A, c, h1, h2, h3⟩ := HL4.out
      have hl := blk_lt h1
      have hb := (((Below.refl w4.heap.size w4).alloc (Nat.le_refl _) (.cells #[.int .u8 k, .int .u8 0, .int .i64 0, .int .u32 0, .bool false, .string ⟨#[]⟩, .slice none 0 0] 33)).alloc (by simp) (.cells #[.bool (sided k), .bool (hasN k), .bool (k0 k), .bool (k7 k), .bool (k9 k), .bool (hasD k)] 68)).alloc (by simp; omega) (.cells #[.bool (sided k), .bool (hasN k), .bool (k0 k), .bool (k7 k), .bool (k9 k), .bool (hasD k)] 68)
      refine ⟨⟨A, c, (hb.block _ hl).trans h1, h2, h3⟩, ?_, ?_, (hb.block _ (by have := blk_lt HR4.out; omega)).trans HR4.out, HW4.out.trans (hb.mono HW4.out.size), HSM1.out, hlt4, hl, by omega⟩
      · rw [Below.heap_alloc _ _ _ (by simp <;> omega), Below.heap_alloc _ _ _ (by simp <;> omega)]
        exact heap_alloc_new w4 _
      · have := heap_alloc_new ((w4.alloc (.cells #[.int .u8 k, .int .u8 0, .int .i64 0, .int .u32 0, .bool false, .string ⟨#[]⟩, .slice none 0 0] 33)).alloc (.cells #[.bool (sided k), .bool (hasN k), .bool (k0 k), .bool (k7 k), .bool (k9 k), .bool (hasD k)] 68)) (.cells #[.bool (sided k), .bool (hasN k), .bool (k0 k), .bool (k7 k), .bool (k9 k), .bool (hasD k)] 68)
        simp only [World.size_alloc] at this
        exact this)
    have HX : Aside0 (w.heap.size < w4.heap.size) := Aside0.mk (blk_lt HR4.out)
    have HEN : Aside0 (Env w1) := Aside0.mk (HE.out.below HB1.out)
    clear HR4 HLOOK HKEY HL4 HO4 HZ HC1 hs32 hg2 hs1' hlt4 HE HPQ HS HP HSM1 HSM0
    generalize (((w4.alloc (.cells #[.int .u8 k, .int .u8 0, .int .i64 0, .int .u32 0, .bool false, .string ⟨#[]⟩, .slice none 0 0] 33)).alloc (.cells #[.bool (sided k), .bool (hasN k), .bool (k0 k), .bool (k7 k), .bool (k9 k), .bool (hasD k)] 68)).alloc (.cells #[.bool (sided k), .bool (hasN k), .bool (k0 k), .bool (k7 k), .bool (k9 k), .bool (hasD k)] 68)) = w5 at *
    go_cut [] (fun wc => Aside0 (PS w1 w4.heap.size (w4.heap.size + 1 + 1) w.heap.size k wc (stSide k p1).2 (cells7 k (stSide k p1).1 0 0 false [] (.slice none 0 0))))
    case first =>
      by_cases hs : sided k = true
      · have e1 : stSide k p1 = numberP 1 p1 := if_pos hs
        have HE1 := Aside0.mk e1
        have HS1 := Aside0.mk hs
        clear e1
        rw [hs]
        clear hs
        go_wp2_with fail
        refine (number_calls size1 (by decide) HPS.out.ln HPS.out.bel (Nat.le_refl _) HEN.out (Nat.le_trans HPS.out.sm.len (by decide))).mono ?_
        rintro e w6 ⟨rfl, hl6, hg6⟩
        have h6 := HPS.out.only hl6 hg6 HPS.out.sm.next
        have H6 := Aside0.mk h6
        have f1 : w6.frozen? ⟨w4.heap.size, 1, none⟩ = false := blk_frozen h6.xb 1
        have z1 : w6.cell? ⟨w4.heap.size, 1, none⟩ = some (.int .u8 0) := blk_cell h6.xb 1
        have hv1 : (numberP 1 p1).1 ≤ 1 := numV_small size1 _
        clear h6 hl6 hg6
        generalize hvv : (numberP 1 p1).1 = v at *
        have HVV := Aside0.mk hvv
        clear hvv
        go_wp2_with fail
        go_meet
        refine Aside0.mk ?_
        rw [HE1.out, HVV.out]
        exact H6.out.put 1 _
      · have hs' : sided k = false := by simpa using hs
        have e1 : stSide k p1 = (0, p1) := if_neg hs
        have HE1 := Aside0.mk e1
        clear e1 hs
        rw [hs']
        clear hs'
        go_wp2_with fail
        go_meet
        refine Aside0.mk ?_
        rw [HE1.out]
        exact HPS.out
    case rest =>
      clear HPS
      generalize stSide k p1 = s1 at *
      obtain ⟨v1, q1⟩ := s1
      have hh : wc.cell? ⟨w4.heap.size + 1 + 1, 1, none⟩ = some (.bool (hasN k)) := blk_cell hcut.out.hb 1
      go_upto_if 34 with fail
      have HPS := hcut
      clear hcut hh
      go_cut [] (fun wc => Aside0 (PS w1 w4.heap.size (w4.heap.size + 1 + 1) w.heap.size k wc (stN k q1).2 (cells7 k v1 (stN k q1).1 0 false [] (.slice none 0 0))))
      case first =>
        by_cases hs : hasN k = true
        · have e1 : stN k q1 = ((numberP 60 q1).1, ((numberP 60 q1).2.1, (numberP 60 q1).2.2 || decide (1099511627776 < (numberP 60 q1).1))) := if_pos hs
          have HE1 := Aside0.mk e1
          clear e1
          rw [hs]
          clear hs
          go_upto_region 11 with (go_at_call 25; refine (number_calls size60 (by decide) HPS.out.ln HPS.out.bel (Nat.le_refl _) HEN.out (Nat.le_trans HPS.out.sm.len (by decide))).mono ?_)
          intro e w6 he6 hl6 hg6
          subst he6
          have h6 := HPS.out.only hl6 hg6 HPS.out.sm.next
          have H6 := Aside0.mk h6
          have f1 : w6.frozen? ⟨w4.heap.size, 2, none⟩ = false := blk_frozen h6.xb 2
          have z1 : w6.cell? ⟨w4.heap.size, 2, none⟩ = some (.int .i64 0) := blk_cell h6.xb 2
          have hv1 : (numberP 60 q1).1 ≤ 1152921504606846975 := numV_small size60 _
          clear h6 hl6 hg6 HPS
          generalize hvv : numberP 60 q1 = vq at *
          have HVV := Aside0.mk hvv
          clear hvv
          obtain ⟨v, ql, qb⟩ := vq
          simp only at hv1
          go_upto_region 11 with fail
          have H7 := Aside0.mk (H6.out.put 2 (.int .i64 v))
          clear H6 f1 z1
          generalize w6.setCell ⟨w4.heap.size, 2, none⟩ (.int .i64 v) = w7 at *
          have fg : w7.frozen? ⟨w1.heap.size, 1, none⟩ = false := by
            obtain ⟨A, c, hb, _⟩ := H7.out.ln
            exact blk_frozen hb 1
          have zg : w7.cell? ⟨w1.heap.size, 1, none⟩ = some (.bool qb) := by
            obtain ⟨A, c, hb, _⟩ := H7.out.ln
            exact blk_cell hb 1
          have z2 : w7.cell? ⟨w4.heap.size, 2, none⟩ = some (.int .i64 v) := blk_cell H7.out.xb 2
          cases qb with
          | true =>
            go_wp2_with fail
            go_meet
            refine Aside0.mk ?_
            rw [HE1.out]
            exact H7.out.flag true
          | false =>
            by_cases hgt : 1099511627776 < v
            · have hgt' : (1099511627776 : Int) < v := by omega
              have ed : decide (1099511627776 < v) = true := decide_eq_true hgt
              have HED := Aside0.mk ed
              clear hgt ed
              go_wp2_with fail
              go_meet
              refine Aside0.mk ?_
              rw [HE1.out]
              have := H7.out.flag true
              simp only [HED.out, Bool.false_or]
              exact this
            · have hgt' : ¬ (1099511627776 : Int) < v := by omega
              have ed : decide (1099511627776 < v) = false := decide_eq_false hgt
              have HED := Aside0.mk ed
              clear hgt ed
              go_wp2_with fail
              go_meet
              refine Aside0.mk ?_
              rw [HE1.out]
              have := H7.out.flag false
              simp only [HED.out, Bool.false_or]
              exact this
        · have hs' : hasN k = false := by simpa using hs
          have e1 : stN k q1 = (0, q1) := if_neg hs
          have HE1 := Aside0.mk e1
          clear e1 hs
          rw [hs']
          clear hs'
          go_wp2_with fail
          go_meet
          refine Aside0.mk ?_
          rw [HE1.out]
          exact HPS.out
      case rest =>
        clear HPS
        generalize stN k q1 = s2 at *
        obtain ⟨v2, q2⟩ := s2
        have hh : wc.cell? ⟨w4.heap.size + 1 + 1, 2, none⟩ = some (.bool (k0 k)) := blk_cell hcut.out.hb 2
        go_upto_if 52 with fail
        have HPS := hcut
        clear hcut hh
        go_cut [] (fun wc => Aside0 (PS w1 w4.heap.size (w4.heap.size + 1 + 1) w.heap.size k wc (stDraw k q2).2 (cells7 k v1 v2 (stDraw k q2).1 false [] (.slice none 0 0))))
        case first =>
          by_cases hs : k0 k = true
          · have e1 : stDraw k q2 = numberP 32 q2 := if_pos (of_decide_eq_true hs)
            have HE1 := Aside0.mk e1
            clear e1
            rw [hs]
            clear hs
            go_wp2_with fail
            refine (number_calls size32 (by decide) HPS.out.ln HPS.out.bel (Nat.le_refl _) HEN.out (Nat.le_trans HPS.out.sm.len (by decide))).mono ?_
            rintro e w6 ⟨rfl, hl6, hg6⟩
            have h6 := HPS.out.only hl6 hg6 HPS.out.sm.next
            have H6 := Aside0.mk h6
            have f1 : w6.frozen? ⟨w4.heap.size, 3, none⟩ = false := blk_frozen h6.xb 3
            have z1 : w6.cell? ⟨w4.heap.size, 3, none⟩ = some (.int .u32 0) := blk_cell h6.xb 3
            have hv1 : (numberP 32 q2).1 ≤ 4294967295 := numV_small size32 _
            clear h6 hl6 hg6
            generalize hvv : (numberP 32 q2).1 = v at *
            have HVV := Aside0.mk hvv
            clear hvv
            go_wp2_with fail
            go_meet
            refine Aside0.mk ?_
            rw [HE1.out, HVV.out]
            exact H6.out.put 3 _
          · have hs' : k0 k = false := by simpa using hs
            have e1 : stDraw k q2 = (0, q2) := if_neg (of_decide_eq_false hs')
            have HE1 := Aside0.mk e1
            clear e1 hs
            rw [hs']
            clear hs'
            go_wp2_with fail
            go_meet
            refine Aside0.mk ?_
            rw [HE1.out]
            exact HPS.out
        case rest =>
          clear HPS
          generalize stDraw k q2 = s3 at *
          obtain ⟨v3, q3⟩ := s3
          have hh : wc.cell? ⟨w4.heap.size + 1 + 1, 3, none⟩ = some (.bool (k7 k)) := blk_cell hcut.out.hb 3
          go_upto_if 58 with fail
          have HPS := hcut
          clear hcut hh
          go_cut [] (fun wc => Aside0 (PS w1 w4.heap.size (w4.heap.size + 1 + 1) w.heap.size k wc (stDone k q3).2 (cells7 k v1 v2 v3 (stDone k q3).1 [] (.slice none 0 0))))
          case first =>
            by_cases hs : k7 k = true
            · have e1 : stDone k q3 = (decide ((numberP 1 q3).1 = 1), (numberP 1 q3).2) := if_pos (of_decide_eq_true hs)
              have HE1 := Aside0.mk e1
              clear e1
              rw [hs]
              clear hs
              go_wp2_with fail
              refine (number_calls size1 (by decide) HPS.out.ln HPS.out.bel (Nat.le_refl _) HEN.out (Nat.le_trans HPS.out.sm.len (by decide))).mono ?_
              rintro e w6 ⟨rfl, hl6, hg6⟩
              have h6 := HPS.out.only hl6 hg6 HPS.out.sm.next
              have H6 := Aside0.mk h6
              have f1 : w6.frozen? ⟨w4.heap.size, 4, none⟩ = false := blk_frozen h6.xb 4
              have z1 : w6.cell? ⟨w4.heap.size, 4, none⟩ = some (.bool false) := blk_cell h6.xb 4
              have hv1 : (numberP 1 q3).1 = 0 ∨ (numberP 1 q3).1 = 1 := by have : (numberP 1 q3).1 ≤ 1 := numV_small size1 _; omega
              clear h6 hl6 hg6
              generalize hvv : (numberP 1 q3).1 = v at *
              have HVV := Aside0.mk hvv
              clear hvv
              rcases hv1 with rfl | rfl
              · go_wp2_with fail
                go_meet
                refine Aside0.mk ?_
                rw [HE1.out]
                exact H6.out.put 4 _
              · go_wp2_with fail
                go_meet
                refine Aside0.mk ?_
                rw [HE1.out]
                exact H6.out.put 4 _
            · have hs' : k7 k = false := by simpa using hs
              have e1 : stDone k q3 = (false, q3) := if_neg (of_decide_eq_false hs')
              have HE1 := Aside0.mk e1
              clear e1 hs
              rw [hs']
              clear hs'
              go_wp2_with fail
              go_meet
              refine Aside0.mk ?_
              rw [HE1.out]
              exact HPS.out
          case rest =>
            clear HPS
            generalize stDone k q3 = s4 at *
            obtain ⟨v4, q4⟩ := s4
            have hh : wc.cell? ⟨w4.heap.size + 1 + 1, 4, none⟩ = some (.bool (k9 k)) := blk_cell hcut.out.hb 4
            go_upto_if 64 with fail
            have HPS := hcut
            clear hcut hh
            go_cut [] (fun wc => Aside0 (PS w1 w4.heap.size (w4.heap.size + 1 + 1) w.heap.size k wc (stPath k q4).2 (cells7 k v1 v2 v3 v4 (stPath k q4).1 (.slice none 0 0))))
            case first =>
              by_cases hs : k9 k = true
              · have e1 : stPath k q4 = ((nextP q4).1, ((nextP q4).2.1, (nextP q4).2.2 || decide (checkN (nextP q4).1 ≠ 0))) := if_pos (of_decide_eq_true hs)
                have HE1 := Aside0.mk e1
                clear e1
                rw [hs]
                clear hs
                go_upto_region 18 with (go_at_call 23; refine (next_calls HPS.out.ln HPS.out.bel).mono ?_)
                intro e w6 he6 hl6 hg6
                subst he6
                have h6 := HPS.out.only hl6 hg6 HPS.out.sm.next
                have H6 := Aside0.mk h6
                have f1 : w6.frozen? ⟨w4.heap.size, 5, none⟩ = false := blk_frozen h6.xb 5
                have z1 : w6.cell? ⟨w4.heap.size, 5, none⟩ = some (.string ⟨#[]⟩) := blk_cell h6.xb 5
                have HSL := Aside0.mk HPS.out.sm.len
                clear h6 hl6 hg6 HPS
                generalize hvv : nextP q4 = vq at *
                clear hvv
                obtain ⟨v, ql, qb⟩ := vq
                go_upto_region 18 with fail
                have H7 := Aside0.mk (H6.out.put 5 (.string (str v)))
                clear H6 f1 z1
                generalize w6.setCell ⟨w4.heap.size, 5, none⟩ (.string (str v)) = w7 at *
                have fg : w7.frozen? ⟨w1.heap.size, 1, none⟩ = false := by
                  obtain ⟨A, c, hb, _⟩ := H7.out.ln
                  exact blk_frozen hb 1
                have zg : w7.cell? ⟨w1.heap.size, 1, none⟩ = some (.bool qb) := by
                  obtain ⟨A, c, hb, _⟩ := H7.out.ln
                  exact blk_cell hb 1
                have z2 : w7.cell? ⟨w4.heap.size, 5, none⟩ = some (.string (str v)) := blk_cell H7.out.xb 5
                cases qb with
                | true =>
                  go_wp2_with fail
                  go_meet
                  refine Aside0.mk ?_
                  rw [HE1.out]
                  exact H7.out.flag true
                | false =>
                  go_wp2_with fail
                  refine (check_calls v (by have : v.length ≤ 1000000 := HSL.out; omega) w7 (HEN.out.below H7.out.bel)).mono ?_
                  rintro e w8 ⟨rfl, hb8⟩
                  have H8 := Aside0.mk (H7.out.below hb8)
                  clear H7 hb8 fg zg z2
                  have fg : w8.frozen? ⟨w1.heap.size, 1, none⟩ = false := by
                    obtain ⟨A, c, hb, _⟩ := H8.out.ln
                    exact blk_frozen hb 1
                  have zg : w8.cell? ⟨w1.heap.size, 1, none⟩ = some (.bool false) := by
                    obtain ⟨A, c, hb, _⟩ := H8.out.ln
                    exact blk_cell hb 1
                  by_cases hn : checkN v = 0
                  · have ed : decide (checkN v ≠ 0) = false := by simp [hn]
                    have HED := Aside0.mk ed
                    rw [hn]
                    clear hn ed
                    go_wp2_with fail
                    go_meet
                    refine Aside0.mk ?_
                    rw [HE1.out]
                    have := H8.out.flag false
                    simp only [HED.out, Bool.false_or]
                    exact this
                  · have ed : decide (checkN v ≠ 0) = true := by simp [hn]
                    have HED := Aside0.mk ed
                    have hz : (checkN v != 0) = true := by simpa using hn
                    clear ed hn
                    go_wp2_with fail
                    go_meet
                    refine Aside0.mk ?_
                    rw [HE1.out]
                    have := H8.out.flag true
                    simp only [HED.out, Bool.false_or]
                    exact this
              · have hs' : k9 k = false := by simpa using hs
                have e1 : stPath k q4 = ([], q4) := if_neg (of_decide_eq_false hs')
                have HE1 := Aside0.mk e1
                clear e1 hs
                rw [hs']
                clear hs'
                go_wp2_with fail
                go_meet
                refine Aside0.mk ?_
                rw [HE1.out]
                exact HPS.out
            case rest =>
              clear HPS
              generalize stPath k q4 = s5 at *
              obtain ⟨v5, q5⟩ := s5
              have hh : wc.cell? ⟨w4.heap.size + 1 + 1, 5, none⟩ = some (.bool (hasD k)) := blk_cell hcut.out.hb 5
              go_upto_if 82 with fail
              have HPS := hcut
              clear hcut hh
              go_cut [] (fun wc => ∃ v, Aside0 (PS w1 w4.heap.size (w4.heap.size + 1 + 1) w.heap.size k wc (stData k q5).2 (cells7 k v1 v2 v3 v4 v5 v)) ∧ Aside0 (Kd.R (Kd.int .u8) 5 wc w1.heap.size (fun j => j ≠ w1.heap.size ∧ j ≠ w4.heap.size) v (ints (stData k q5).1)))
              case first =>
                by_cases hs : hasD k = true
                · have e1 : stData k q5 = bytesP q5 := if_pos hs
                  have HE1 := Aside0.mk e1
                  clear e1
                  rw [hs]
                  clear hs
                  go_wp2_with fail
                  refine (bytes_calls HPS.out.ln HPS.out.bel (Nat.le_refl _) HPS.out.glt HPS.out.sm.len).mono ?_
                  rintro e w6 ⟨v, rfl, hl6, hg6, hR6⟩
                  obtain ⟨dA, dc, rfl⟩ := Kd.R_slice hR6
                  have h6 := HPS.out.only hl6 hg6 HPS.out.sm.bytes
                  have H6 := Aside0.mk h6
                  have f1 : w6.frozen? ⟨w4.heap.size, 6, none⟩ = false := blk_frozen h6.xb 6
                  have z1 : w6.cell? ⟨w4.heap.size, 6, none⟩ = some (.slice none 0 0) := blk_cell h6.xb 6
                  have HR6 := Aside0.mk hR6
                  have HLT := Aside0.mk (blk_lt HPS.out.xb)
                  have HG := Aside0.mk HPS.out.glt
                  clear h6 hl6 hg6 hR6
                  go_wp2_with fail
                  go_meet
                  refine ⟨.slice dA (ints (bytesP q5).1).length dc, Aside0.mk ?_, Aside0.mk ?_⟩
                  · rw [HE1.out]
                    exact H6.out.put 6 _
                  · rw [HE1.out]
                    have h1 := HLT.out
                    have h2 := HG.out
                    refine Kd.R_lower (Kd.R_mono (Kd.R_step (Kd.R_bound HR6.out) ?_) ?_) (Nat.le_of_lt h2)
                    · rintro j ⟨_, hj, _⟩ _
                      exact Below.heap_setCell _ _ _ _ (by simp; omega)
                    · rintro j ⟨_, hj, _⟩
                      omega
                · have hs' : hasD k = false := by simpa using hs
                  have e1 : stData k q5 = ([], q5) := if_neg hs
                  have HE1 := Aside0.mk e1
                  clear e1 hs
                  rw [hs']
                  clear hs'
                  go_wp2_with fail
                  go_meet
                  refine ⟨.slice none 0 0, Aside0.mk ?_, Aside0.mk ?_⟩
                  · rw [HE1.out]
                    exact HPS.out
                  · rw [HE1.out]
                    exact Kd.R_nil _ _ _ _ _
              case rest =>
                clear HPS
                obtain ⟨dv, hcut, hR⟩ := hcut
                generalize stData k q5 = s6 at *
                obtain ⟨v6, ql, qb⟩ := s6
                obtain ⟨ga, gc, gb, gl, _⟩ := hcut.out.ln
                obtain ⟨dA, dc, rfl⟩ := Kd.R_slice hR.out
                have zg : wc.cell? ⟨w1.heap.size, 1, none⟩ = some (.bool qb) := blk_cell gb 1
                have zl : wc.cell? ⟨w1.heap.size, 0, none⟩ = some (.slice ga ql.length gc) := blk_cell gb 0
                clear gb gl
                have HC := hcut
                clear hcut
                go_upto_region 21 with fail
                generalize hwe : wc = we at *
                clear hwe
                go_cut [97] (fun v97 wx => v97 = .bool (qb || !ql.isEmpty) ∧ wx = we)
                case first =>
                  cases qb with
                  | true =>
                    go_wp2_with fail
                    go_meet
                    exact ⟨rfl, rfl⟩
                  | false =>
                    cases ql with
                    | nil =>
                      go_wp2_with fail
                      go_meet
                      exact ⟨rfl, rfl⟩
                    | cons y t =>
                      have hpos : 0 < (y :: t).length := by simp
                      generalize (y :: t).length = n at *
                      have HPOS := Aside0.mk (decide_eq_true hpos)
                      clear hpos
                      go_wp2_with fail
                      go_meet
                      exact ⟨by rw [HPOS.out]; rfl, rfl⟩
                case rest =>
                  obtain ⟨rfl, rfl⟩ := hcut
                  dsimp only at HPK hR HC
                  generalize (qb || !ql.isEmpty) = bad at *
                  have HBW : Aside0 (Below w.heap.size w wc) := Aside0.mk (HB1.out.trans (HC.out.bel.mono HB1.out.size))
                  have z0 : wc.cell? ⟨w.heap.size, 0, none⟩ = some (.int .u8 0) := blk_cell HC.out.rb 0
                  have f0 : wc.frozen? ⟨w.heap.size, 0, none⟩ = false := blk_frozen HC.out.rb 0
                  have z1 : wc.cell? ⟨w.heap.size, 1, none⟩ = some (.int .u8 0) := blk_cell HC.out.rb 1
                  have f1 : wc.frozen? ⟨w.heap.size, 1, none⟩ = false := blk_frozen HC.out.rb 1
                  have z2 : wc.cell? ⟨w.heap.size, 2, none⟩ = some (.int .i64 0) := blk_cell HC.out.rb 2
                  have f2 : wc.frozen? ⟨w.heap.size, 2, none⟩ = false := blk_frozen HC.out.rb 2
                  have z3 : wc.cell? ⟨w.heap.size, 3, none⟩ = some (.int .u32 0) := blk_cell HC.out.rb 3
                  have f3 : wc.frozen? ⟨w.heap.size, 3, none⟩ = false := blk_frozen HC.out.rb 3
                  have z4 : wc.cell? ⟨w.heap.size, 4, none⟩ = some (.bool false) := blk_cell HC.out.rb 4
                  have f4 : wc.frozen? ⟨w.heap.size, 4, none⟩ = false := blk_frozen HC.out.rb 4
                  have z5 : wc.cell? ⟨w.heap.size, 5, none⟩ = some (.string ⟨#[]⟩) := blk_cell HC.out.rb 5
                  have f5 : wc.frozen? ⟨w.heap.size, 5, none⟩ = false := blk_frozen HC.out.rb 5
                  have z6 : wc.cell? ⟨w.heap.size, 6, none⟩ = some (.slice none 0 0) := blk_cell HC.out.rb 6
                  have f6 : wc.frozen? ⟨w.heap.size, 6, none⟩ = false := blk_frozen HC.out.rb 6
                  cases bad with
                  | true =>
                    clear zg zl
                    go_wp2_with fail
                    have hb5 := put7_blk HC.out.rb (.int .u8 0) (.int .u8 0) (.int .i64 0) (.int .u32 0) (.bool false) (.string ⟨#[]⟩) (.slice none 0 0)
                    have HB5 := put7_below HBW.out (Nat.le_refl _) (.int .u8 0) (.int .u8 0) (.int .i64 0) (.int .u32 0) (.bool false) (.string ⟨#[]⟩) (.slice none 0 0)
                    clear z0 z1 z2 z3 z4 z5 z6 f0 f1 f2 f3 f4 f5 f6
                    unfold put7 at hb5 HB5
                    generalize (((((((wc.setCell ⟨w.heap.size, 0, none⟩ (.int .u8 0)).setCell ⟨w.heap.size, 1, none⟩ (.int .u8 0)).setCell ⟨w.heap.size, 2, none⟩ (.int .i64 0)).setCell ⟨w.heap.size, 3, none⟩ (.int .u32 0)).setCell ⟨w.heap.size, 4, none⟩ (.bool false)).setCell ⟨w.heap.size, 5, none⟩ (.string ⟨#[]⟩)).setCell ⟨w.heap.size, 6, none⟩ (.slice none 0 0)) = w9 at *
                    have z0 : w9.cell? ⟨w.heap.size, 0, none⟩ = some (.int .u8 0) := blk_cell hb5 0
                    have z1 : w9.cell? ⟨w.heap.size, 1, none⟩ = some (.int .u8 0) := blk_cell hb5 1
                    have z2 : w9.cell? ⟨w.heap.size, 2, none⟩ = some (.int .i64 0) := blk_cell hb5 2
                    have z3 : w9.cell? ⟨w.heap.size, 3, none⟩ = some (.int .u32 0) := blk_cell hb5 3
                    have z4 : w9.cell? ⟨w.heap.size, 4, none⟩ = some (.bool false) := blk_cell hb5 4
                    have z5 : w9.cell? ⟨w.heap.size, 5, none⟩ = some (.string ⟨#[]⟩) := blk_cell hb5 5
                    have z6 : w9.cell? ⟨w.heap.size, 6, none⟩ = some (.slice none 0 0) := blk_cell hb5 6
                    refine bodyPost_ret (v := .tuple #[.agg zero33, .int .i64 60]) (by simp [results, Tryd.results12, go_sem, z0, z1, z2, z3, z4, z5, z6] <;> rfl) rfl ?_
                    rw [show parseS l = none from HPK.out.trans (if_pos (by trivial))]
                    exact parseP_none HB5
                  | false =>
                    clear zg zl
                    have x0 : wc.cell? ⟨w4.heap.size, 0, none⟩ = some (.int .u8 k) := blk_cell HC.out.xb 0
                    have x1 : wc.cell? ⟨w4.heap.size, 1, none⟩ = some (.int .u8 v1) := blk_cell HC.out.xb 1
                    have x2 : wc.cell? ⟨w4.heap.size, 2, none⟩ = some (.int .i64 v2) := blk_cell HC.out.xb 2
                    have x3 : wc.cell? ⟨w4.heap.size, 3, none⟩ = some (.int .u32 v3) := blk_cell HC.out.xb 3
                    have x4 : wc.cell? ⟨w4.heap.size, 4, none⟩ = some (.bool v4) := blk_cell HC.out.xb 4
                    have x5 : wc.cell? ⟨w4.heap.size, 5, none⟩ = some (.string (str v5)) := blk_cell HC.out.xb 5
                    have x6 : wc.cell? ⟨w4.heap.size, 6, none⟩ = some (.slice dA (ints v6).length dc) := blk_cell HC.out.xb 6
                    go_wp2_with fail
                    have hb5 := put7_blk HC.out.rb (.int .u8 k) (.int .u8 v1) (.int .i64 v2) (.int .u32 v3) (.bool v4) (.string (str v5)) (.slice dA (ints v6).length dc)
                    have HB5 := put7_below HBW.out (Nat.le_refl _) (.int .u8 k) (.int .u8 v1) (.int .i64 v2) (.int .u32 v3) (.bool v4) (.string (str v5)) (.slice dA (ints v6).length dc)
                    have HR5 := Kd.R_lower (Kd.R_mono (ok' := fun _ => True) (Kd.R_step (w1 := put7 wc w.heap.size (.int .u8 k) (.int .u8 v1) (.int .i64 v2) (.int .u32 v3) (.bool v4) (.string (str v5)) (.slice dA (ints v6).length dc)) (Kd.R_bound hR.out) (by rintro j ⟨_, hj, _⟩ _; exact put7_far (by have := HC.out.rg; omega) _ _ _ _ _ _ _)) (fun _ _ => trivial)) (Nat.le_of_lt HC.out.rg)
                    clear z0 z1 z2 z3 z4 z5 z6 f0 f1 f2 f3 f4 f5 f6 x0 x1 x2 x3 x4 x5 x6
                    unfold put7 at hb5 HB5 HR5
                    generalize (((((((wc.setCell ⟨w.heap.size, 0, none⟩ (.int .u8 k)).setCell ⟨w.heap.size, 1, none⟩ (.int .u8 v1)).setCell ⟨w.heap.size, 2, none⟩ (.int .i64 v2)).setCell ⟨w.heap.size, 3, none⟩ (.int .u32 v3)).setCell ⟨w.heap.size, 4, none⟩ (.bool v4)).setCell ⟨w.heap.size, 5, none⟩ (.string (str v5))).setCell ⟨w.heap.size, 6, none⟩ (.slice dA (ints v6).length dc)) = w9 at *
                    have z0 : w9.cell? ⟨w.heap.size, 0, none⟩ = some (.int .u8 k) := blk_cell hb5 0
                    have z1 : w9.cell? ⟨w.heap.size, 1, none⟩ = some (.int .u8 v1) := blk_cell hb5 1
                    have z2 : w9.cell? ⟨w.heap.size, 2, none⟩ = some (.int .i64 v2) := blk_cell hb5 2
                    have z3 : w9.cell? ⟨w.heap.size, 3, none⟩ = some (.int .u32 v3) := blk_cell hb5 3
                    have z4 : w9.cell? ⟨w.heap.size, 4, none⟩ = some (.bool v4) := blk_cell hb5 4
                    have z5 : w9.cell? ⟨w.heap.size, 5, none⟩ = some (.string (str v5)) := blk_cell hb5 5
                    have z6 : w9.cell? ⟨w.heap.size, 6, none⟩ = some (.slice dA (ints v6).length dc) := blk_cell hb5 6
                    refine bodyPost_ret (v := .tuple #[.agg #[.int .u8 k, .int .u8 v1, .int .i64 v2, .int .u32 v3, .bool v4, .string (str v5), .slice dA (ints v6).length dc], .int .i64 0]) (by simp [results, Tryd.results12, go_sem, z0, z1, z2, z3, z4, z5, z6] <;> rfl) rfl ?_
                    rw [show parseS l = some ⟨k, v1, v2, v3, v4, v5, v6⟩ from HPK.out.trans (if_neg (by simp))]
                    exact ⟨[.int .u8 k, .int .u8 v1, .int .i64 v2, .int .u32 v3, .bool v4, .string (str v5), .slice dA (ints v6).length dc], rfl, k33_mkM w9 _ _ (s33 ⟨k, v1, v2, v3, v4, v5, v6⟩) (v6 := .slice dA (ints v6).length dc) HR5, HB5⟩
end Go.Proofs.YtfjjikabinelgaaDoor
namespace Go.Proofs.YtfjjikabinelgaaDoor
open Go.RowKit Go.Maps Go.Proofs.YtfjjikabinelgaaDoorW.PrintWords Go.Proofs.YtfjjikabinelgaaDoorW.PrintLast Go.Proofs.YtfjjikabinelgaaDoorW.PrintMore Sc PScriptLines
set_option linter.unusedVariables false
set_option linter.unusedSimpArgs false

/-! a step's parts, one behind the other -/
def dSide (k kk : Nat) : Nat := if sided kk then k / 10 % 2 else 0
def dDone (k kk : Nat) : Bool := k7 kk && decide (k / 20 % 2 = 1)
def dN (kk : Nat) (b : List UInt8) : Nat × List UInt8 := if hasN kk then one b else (0, b)
def dDraw (kk n : Nat) (b : List UInt8) : Nat × Nat × List UInt8 := if k0 kk then (n % 65, (one b).1, (one b).2) else (n, 0, b)
def dPath (kk : Nat) (b : List UInt8) : List UInt8 × List UInt8 := if k9 kk then txt 7 b else ([], b)
def lng (kk : Nat) : Nat := if kk = 4 then 15 else if kk = 6 then 7 else 63
def dData (kk : Nat) (b : List UInt8) : List UInt8 × List UInt8 := if hasD kk then txt (lng kk) b else ([], b)
def stepS (k : Nat) (b : List UInt8) : Stp × List UInt8 :=
  let n := dN (k % 10) b
  let d := dDraw (k % 10) n.1 n.2
  let p := dPath (k % 10) d.2.2
  let t := dData (k % 10) p.2
  (⟨k % 10, dSide k (k % 10), d.1, d.2.1, dDone k (k % 10), p.1, t.1⟩, t.2)

theorem stepS_eq (k : Nat) (b : List UInt8) : stepS k b = stepK k b := by
  have hk : k % 10 = 0 ∨ k % 10 = 1 ∨ k % 10 = 2 ∨ k % 10 = 3 ∨ k % 10 = 4 ∨ k % 10 = 5 ∨ k % 10 = 6 ∨ k % 10 = 7 ∨ k % 10 = 8 ∨ k % 10 = 9 := by omega
  rcases hk with h | h | h | h | h | h | h | h | h | h <;>
    simp [stepS, stepK, h, dSide, dDone, dN, dDraw, dPath, dData, lng, sided, hasN, hasD, k0, k7, k9]

theorem str_nums (l : List UInt8) : strOfNums (ints l) = str l := by
  unfold strOfNums ints str
  rw [List.map_map]
  have : ((fun n : Int => UInt8.ofNat n.toNat) ∘ fun c : UInt8 => (c.toNat : Int)) = id := by
    funext c
    simp
  rw [this, List.map_id]
theorem long_calls2 (k : Nat) (hk : k ≤ 9) (w : World) : Calls Tryd.prog 44 #[.int .u8 k] w fun e w' => e = .returned (.int .i64 (lng k : Nat)) ∧ w' = w := by
  refine (long_calls k hk w).mono ?_
  rintro e w' ⟨rfl, rfl⟩
  refine ⟨?_, rfl⟩
  unfold lng
  split
  · rfl
  · split <;> rfl
theorem lng_le (k : Nat) : lng k ≤ 63 := by unfold lng; split <;> (try split) <;> omega

/-- How step's blocks lie: the reader g, the step x, what it has h, the result. -/
structure DS (w0 W : World) (g x h kk : Nat) (w : World) (l : List UInt8) (cs : Array Value) : Prop where
  rd : Rd w0 w g l
  xb : w.heap[x]? = some (.cells cs 33 (0, 0))
  hb : w.heap[h]? = some (.cells (hv kk) 68 (0, 0))
  rb : w.heap[W.heap.size]? = some (.cells zero33 33 (0, 0))
  gro : W.grownBy w (some g)
  gw : g < W.heap.size
  rx : W.heap.size < x
  xh : x < h

theorem DS.bel {w0 W w : World} {g x h kk : Nat} {l : List UInt8} {cs : Array Value} (H : DS w0 W g x h kk w l cs) (hB : Below w0.heap.size w0 W) (hg : w0.heap.size ≤ g) : Below w0.heap.size w0 w := below_only hB hg H.gro
theorem DS.only {w0 W w w2 : World} {g x h kk : Nat} {l l2 : List UInt8} {cs : Array Value} (H : DS w0 W g x h kk w l cs) (hl : Rd w0 w2 g l2) (hg : w.grownBy w2 (some g)) : DS w0 W g x h kk w2 l2 cs := by
  have h1 := H.gw
  have h2 := H.rx
  have h3 := H.xh
  exact ⟨hl, blk_grown H.xb hg (by simp; omega), blk_grown H.hb hg (by simp; omega), blk_grown H.rb hg (by simp; omega), grown_trans' H.gro hg, h1, h2, h3⟩
theorem DS.put {w0 W w : World} {g x h kk : Nat} {l : List UInt8} {cs : Array Value} (H : DS w0 W g x h kk w l cs) (j : Nat) (u : Value) : DS w0 W g x h kk (w.setCell ⟨x, j, none⟩ u) l (cs.setIfInBounds j u) := by
  obtain ⟨v, h1, h2⟩ := H.rd
  have e1 := H.gw
  have e2 := H.rx
  have e3 := H.xh
  have e4 := H.gro
  refine ⟨⟨v, blk_far h1 (by simp; omega) u, h2⟩, blk_set H.xb j u, blk_far H.hb (by simp; omega) u, blk_far H.rb (by simp; omega) u, ⟨e4.os, e4.tape, e4.output, by simpa [World.setCell] using e4.size, fun i hi hne => ?_⟩, e1, e2, e3⟩
  exact (Below.heap_setCell w ⟨x, j, none⟩ u i (by simp; omega)).trans (e4.block i hi hne)

theorem grown_put {w w1 : World} {g : Nat} (h : w.grownBy w1 (some g)) {r : Nat} (hr : w.heap.size ≤ r) (j : Nat) (u : Value) : w.grownBy (w1.setCell ⟨r, j, none⟩ u) (some g) :=
  ⟨h.os, h.tape, h.output, by simpa [World.setCell] using h.size, fun i hi hne => (Below.heap_setCell w1 ⟨r, j, none⟩ u i (by simp; omega)).trans (h.block i hi hne)⟩
theorem put7_grown {w w1 : World} {g : Nat} (h : w.grownBy w1 (some g)) {r : Nat} (hr : w.heap.size ≤ r) (a b c d e f u : Value) : w.grownBy (put7 w1 r a b c d e f u) (some g) :=
  grown_put (grown_put (grown_put (grown_put (grown_put (grown_put (grown_put h hr 0 a) hr 1 b) hr 2 c) hr 3 d) hr 4 e) hr 5 f) hr 6 u

set_option maxHeartbeats 8000000 in
set_option maxRecDepth 100000 in
theorem step_calls {w0 w : World} {g : Nat} {l : List UInt8} (h : Rd w0 w g l) (hB : Below w0.heap.size w0 w) (hg : w0.heap.size ≤ g) :
    Calls Tryd.prog 19 #[.pointer (some ⟨g, 0, none⟩)] w fun e w' => ∃ cs : List Value, e = .returned (.agg cs.toArray) ∧ Rd w0 w' g (Sc.step l).2 ∧ w.grownBy w' (some g) ∧ k33.M w' w.heap.size (fun _ => True) (s33 (Sc.step l).1) cs := by
  have est : Sc.step l = stepS (one l).1 (one l).2 := (stepS_eq _ _).symm
  have HB := Aside0.mk hB
  have HG := Aside0.mk hg
  have HD := Aside0.mk h
  rw [est]
  have hgw : g < w.heap.size := by
    obtain ⟨v, hb, _⟩ := h
    exact blk_lt hb
  clear h hB hg est
  obtain ⟨res, hres⟩ : ∃ res, res = stepS (one l).1 (one l).2 := ⟨_, rfl⟩
  rw [← hres]
  have HRES := Aside0.mk hres
  clear hres
  have HR0 : Aside0 (Rd w0 (w.alloc (.cells zero33 33)) g l) := Aside0.mk (by
    obtain ⟨v, hb, hv⟩ := HD.out
    exact ⟨v, (Below.heap_alloc _ _ _ hgw).trans hb, hv⟩)
  have HGW := Aside0.mk hgw
  clear hgw HD
  go_enter Tryd.func19, Tryd.ntmps19
  go_wp2_with fail
  refine (one_calls HR0.out (HB.out.alloc HB.out.size _)).mono ?_
  rintro e w1 ⟨rfl, h1, hg1, hs1⟩
  have HRB : Aside0 (w1.heap[w.heap.size]? = some (.cells zero33 33 (0, 0))) := Aside0.mk (blk_grown (heap_alloc_new w (.cells zero33 33)) hg1 (by have := HGW.out; simp; omega))
  have HGR : Aside0 (w.grownBy w1 (some g)) := Aside0.mk (grown_trans' (w1 := w.alloc (.cells zero33 33)) ⟨rfl, rfl, rfl, by simp, fun i hi _ => Below.heap_alloc _ _ _ hi⟩ hg1)
  have HS1 : Aside0 (w1.heap.size = w.heap.size + 1) := Aside0.mk (by simpa using hs1)
  have hk := one_lt l
  have HR1 := Aside0.mk h1
  clear h1 hg1 hs1 HR0
  generalize (one l).1 = k at *
  generalize (one l).2 = l1 at *
  obtain ⟨kk, hkk⟩ : ∃ kk, kk = k % 10 := ⟨_, rfl⟩
  have em : (k : Int) % 10 = (kk : Int) := by rw [hkk]; rfl
  have hk9 : kk ≤ 9 := by omega
  have HKK := Aside0.mk hkk
  clear hkk
  go_upto_if 16 with (go_at_call 24; refine (parts_calls2 kk hk9 _).mono ?_; rintro e w5 ⟨rfl, rfl⟩)
  have HDS : Aside0 (DS w0 w g w1.heap.size (w1.heap.size + 1 + 1) kk (((w1.alloc (.cells #[.int .u8 kk, .int .u8 0, .int .i64 0, .int .u32 0, .bool false, .string ⟨#[]⟩, .slice none 0 0] 33)).alloc (.cells #[.bool (sided kk), .bool (hasN kk), .bool (k0 kk), .bool (k7 kk), .bool (k9 kk), .bool (hasD kk)] 68)).alloc (.cells #[.bool (sided kk), .bool (hasN kk), .bool (k0 kk), .bool (k7 kk), .bool (k9 kk), .bool (hasD kk)] 68)) l1 (cells7 kk 0 0 0 false [] (.slice none 0 0))) := Aside0.mk (by
    obtain ⟨v, h1, h2⟩ := HR1.out
    have hl := blk_lt h1
    have hb := (((Below.refl w1.heap.size w1).alloc (Nat.le_refl _) (.cells #[.int .u8 kk, .int .u8 0, .int .i64 0, .int .u32 0, .bool false, .string ⟨#[]⟩, .slice none 0 0] 33)).alloc (by simp) (.cells #[.bool (sided kk), .bool (hasN kk), .bool (k0 kk), .bool (k7 kk), .bool (k9 kk), .bool (hasD kk)] 68)).alloc (by simp; omega) (.cells #[.bool (sided kk), .bool (hasN kk), .bool (k0 kk), .bool (k7 kk), .bool (k9 kk), .bool (hasD kk)] 68)
    refine ⟨⟨v, (hb.block _ hl).trans h1, h2⟩, ?_, ?_, (hb.block _ (blk_lt HRB.out)).trans HRB.out, grown_below' HGR.out hb, HGW.out, by rw [HS1.out]; omega, by omega⟩
    · rw [Below.heap_alloc _ _ _ (by simp <;> omega), Below.heap_alloc _ _ _ (by simp <;> omega)]
      exact heap_alloc_new w1 _
    · have := heap_alloc_new ((w1.alloc (.cells #[.int .u8 kk, .int .u8 0, .int .i64 0, .int .u32 0, .bool false, .string ⟨#[]⟩, .slice none 0 0] 33)).alloc (.cells #[.bool (sided kk), .bool (hasN kk), .bool (k0 kk), .bool (k7 kk), .bool (k9 kk), .bool (hasD kk)] 68)) (.cells #[.bool (sided kk), .bool (hasN kk), .bool (k0 kk), .bool (k7 kk), .bool (k9 kk), .bool (hasD kk)] 68)
      simp only [World.size_alloc] at this
      exact this)
  clear HRB HGR HR1
  generalize (((w1.alloc (.cells #[.int .u8 kk, .int .u8 0, .int .i64 0, .int .u32 0, .bool false, .string ⟨#[]⟩, .slice none 0 0] 33)).alloc (.cells #[.bool (sided kk), .bool (hasN kk), .bool (k0 kk), .bool (k7 kk), .bool (k9 kk), .bool (hasD kk)] 68)).alloc (.cells #[.bool (sided kk), .bool (hasN kk), .bool (k0 kk), .bool (k7 kk), .bool (k9 kk), .bool (hasD kk)] 68)) = w5 at *
  obtain ⟨sd, hsd⟩ : ∃ sd, sd = k / 10 % 2 := ⟨_, rfl⟩
  have em2 : (k : Int) / 10 % 2 = (sd : Int) := by rw [hsd]; rfl
  have hsd1 : sd ≤ 1 := by omega
  have HSD := Aside0.mk hsd
  clear hsd
  go_cut [] (fun wc => Aside0 (DS w0 w g w1.heap.size (w1.heap.size + 1 + 1) kk wc l1 (cells7 kk (dSide k kk) 0 0 false [] (.slice none 0 0))))
  case first =>
    have f1 : w5.frozen? ⟨w1.heap.size, 1, none⟩ = false := blk_frozen HDS.out.xb 1
    have z1 : w5.cell? ⟨w1.heap.size, 1, none⟩ = some (.int .u8 0) := blk_cell HDS.out.xb 1
    by_cases hs : sided kk = true
    · have HS' := Aside0.mk hs
      rw [hs]
      clear hs
      go_wp2_with fail
      go_meet
      refine Aside0.mk ?_
      have e1 : dSide k kk = sd := by rw [HSD.out]; exact if_pos HS'.out
      rw [e1]
      exact HDS.out.put 1 _
    · have hs' : sided kk = false := by simpa using hs
      have HS' := Aside0.mk hs'
      clear hs
      rw [hs']
      clear hs'
      go_wp2_with fail
      go_meet
      refine Aside0.mk ?_
      have e1 : dSide k kk = 0 := if_neg (by rw [HS'.out]; decide)
      rw [e1]
      exact HDS.out
  case rest =>
    clear HDS em2 hsd1
    generalize hvs : dSide k kk = v1 at *
    have HVS := Aside0.mk hvs
    clear hvs
    obtain ⟨dd, hdd⟩ : ∃ dd, dd = k / 20 % 2 := ⟨_, rfl⟩
    have em3 : (k : Int) / 20 % 2 = (dd : Int) := by rw [hdd]; rfl
    have hd1 : dd = 0 ∨ dd = 1 := by omega
    have HDD := Aside0.mk hdd
    clear hdd
    have hh : wc.cell? ⟨w1.heap.size + 1 + 1, 3, none⟩ = some (.bool (k7 kk)) := blk_cell hcut.out.hb 3
    have f4 : wc.frozen? ⟨w1.heap.size, 4, none⟩ = false := blk_frozen hcut.out.xb 4
    have z4 : wc.cell? ⟨w1.heap.size, 4, none⟩ = some (.bool false) := blk_cell hcut.out.xb 4
    have HDS := hcut
    clear hcut
    go_upto_region 6 with fail
    go_cut [] (fun wc => Aside0 (DS w0 w g w1.heap.size (w1.heap.size + 1 + 1) kk wc l1 (cells7 kk v1 0 0 (dDone k kk) [] (.slice none 0 0))))
    case first =>
      by_cases hs : k7 kk = true
      · have HS' := Aside0.mk hs
        rw [hs] at hh
        clear hs
        rcases hd1 with rfl | rfl
        · go_wp2_with fail
          go_meet
          refine Aside0.mk ?_
          have e1 : dDone k kk = false := by unfold dDone; rw [HS'.out, ← HDD.out]; rfl
          rw [e1]
          exact HDS.out.put 4 _
        · go_wp2_with fail
          go_meet
          refine Aside0.mk ?_
          have e1 : dDone k kk = true := by unfold dDone; rw [HS'.out, ← HDD.out]; rfl
          rw [e1]
          exact HDS.out.put 4 _
      · have hs' : k7 kk = false := by simpa using hs
        have HS' := Aside0.mk hs'
        rw [hs'] at hh
        clear hs hs' hd1 em3
        go_wp2_with fail
        go_meet
        refine Aside0.mk ?_
        have e1 : dDone k kk = false := by unfold dDone; rw [HS'.out]; rfl
        rw [e1]
        exact HDS.out.put 4 _
    case rest =>
      clear HDS
      generalize hvd : dDone k kk = v4 at *
      have HVD := Aside0.mk hvd
      clear hvd em3 hd1 f4 z4 hh
      have hh : wc.cell? ⟨w1.heap.size + 1 + 1, 1, none⟩ = some (.bool (hasN kk)) := blk_cell hcut.out.hb 1
      go_upto_if 32 with fail
      have HDS := hcut
      clear hcut hh
      go_cut [] (fun wc => Aside0 (DS w0 w g w1.heap.size (w1.heap.size + 1 + 1) kk wc (dN kk l1).2 (cells7 kk v1 (dN kk l1).1 0 v4 [] (.slice none 0 0))))
      case first =>
        by_cases hs : hasN kk = true
        · have HS' := Aside0.mk hs
          rw [hs]
          clear hs
          go_wp2_with fail
          refine (one_calls HDS.out.rd (HDS.out.bel HB.out HG.out)).mono ?_
          rintro e w6 ⟨rfl, h6, hg6, _⟩
          have h6 := HDS.out.only h6 hg6
          have H6 := Aside0.mk h6
          have f1 : w6.frozen? ⟨w1.heap.size, 2, none⟩ = false := blk_frozen h6.xb 2
          have z1 : w6.cell? ⟨w1.heap.size, 2, none⟩ = some (.int .i64 0) := blk_cell h6.xb 2
          clear h6 hg6
          go_wp2_with fail
          go_meet
          refine Aside0.mk ?_
          have e1 : dN kk l1 = one l1 := if_pos HS'.out
          rw [e1]
          exact H6.out.put 2 _
        · have hs' : hasN kk = false := by simpa using hs
          have HS' := Aside0.mk hs'
          clear hs
          rw [hs']
          clear hs'
          go_wp2_with fail
          go_meet
          have e1 : dN kk l1 = (0, l1) := if_neg (by rw [HS'.out]; decide)
          refine Aside0.mk ?_
          rw [e1]
          exact HDS.out
      case rest =>
        clear HDS
        generalize hvs : dN kk l1 = vs at *
        have HVS37 := Aside0.mk hvs
        clear hvs
        obtain ⟨n2, l2⟩ := vs
        have hh : wc.cell? ⟨w1.heap.size + 1 + 1, 2, none⟩ = some (.bool (k0 kk)) := blk_cell hcut.out.hb 2
        go_upto_if 37 with fail
        have HDS := hcut
        clear hcut hh
        go_cut [] (fun wc => Aside0 (DS w0 w g w1.heap.size (w1.heap.size + 1 + 1) kk wc (dDraw kk n2 l2).2.2 (cells7 kk v1 (dDraw kk n2 l2).1 (dDraw kk n2 l2).2.1 v4 [] (.slice none 0 0))))
        case first =>
          by_cases hs : k0 kk = true
          · have HS' := Aside0.mk hs
            rw [hs]
            clear hs
            have em4 : (n2 : Int) % 65 = ((n2 % 65 : Nat) : Int) := rfl
            generalize hn3 : n2 % 65 = n3 at *
            have HN3 := Aside0.mk hn3
            clear hn3
            have f1 : wc.frozen? ⟨w1.heap.size, 2, none⟩ = false := blk_frozen HDS.out.xb 2
            have z1 : wc.cell? ⟨w1.heap.size, 2, none⟩ = some (.int .i64 n2) := blk_cell HDS.out.xb 2
            go_upto_region 10 with fail
            go_upto_region 11 with fail
            have H5 := Aside0.mk (HDS.out.put 2 (.int .i64 n3))
            clear f1 z1 HDS em4
            generalize wc.setCell ⟨w1.heap.size, 2, none⟩ (.int .i64 n3) = w5b at *
            go_wp2_with fail
            refine (one_calls H5.out.rd (H5.out.bel HB.out HG.out)).mono ?_
            rintro e w6 ⟨rfl, h6, hg6, _⟩
            have h6 := H5.out.only h6 hg6
            have H6 := Aside0.mk h6
            have f1 : w6.frozen? ⟨w1.heap.size, 3, none⟩ = false := blk_frozen h6.xb 3
            have z1 : w6.cell? ⟨w1.heap.size, 3, none⟩ = some (.int .u32 0) := blk_cell h6.xb 3
            have ho := one_lt l2
            clear h6 hg6
            generalize hoo : (one l2).1 = oo at *
            have HOO := Aside0.mk hoo
            clear hoo
            go_wp2_with fail
            go_meet
            refine Aside0.mk ?_
            have e1 : dDraw kk n2 l2 = (n2 % 65, (one l2).1, (one l2).2) := if_pos HS'.out
            rw [e1, HN3.out, HOO.out]
            exact H6.out.put 3 _
          · have hs' : k0 kk = false := by simpa using hs
            have HS' := Aside0.mk hs'
            clear hs
            rw [hs']
            clear hs'
            go_wp2_with fail
            go_meet
            have e1 : dDraw kk n2 l2 = (n2, 0, l2) := if_neg (by rw [HS'.out]; decide)
            refine Aside0.mk ?_
            rw [e1]
            exact HDS.out
        case rest =>
          clear HDS
          generalize hvs : dDraw kk n2 l2 = vs at *
          have HVS47 := Aside0.mk hvs
          clear hvs
          obtain ⟨n3, v3, l3⟩ := vs
          have hh : wc.cell? ⟨w1.heap.size + 1 + 1, 4, none⟩ = some (.bool (k9 kk)) := blk_cell hcut.out.hb 4
          go_upto_if 47 with fail
          have HDS := hcut
          clear hcut hh
          go_cut [] (fun wc => Aside0 (DS w0 w g w1.heap.size (w1.heap.size + 1 + 1) kk wc (dPath kk l3).2 (cells7 kk v1 n3 v3 v4 (dPath kk l3).1 (.slice none 0 0))))
          case first =>
            by_cases hs : k9 kk = true
            · have HS' := Aside0.mk hs
              rw [hs]
              clear hs
              go_wp2_with fail
              refine (text_calls 7 (by decide) HDS.out.rd (HDS.out.bel HB.out HG.out) HG.out).mono ?_
              rintro e w6 ⟨v, rfl, h6, hg6, hR⟩
              have h6 := HDS.out.only h6 hg6
              have H6 := Aside0.mk h6
              have f1 : w6.frozen? ⟨w1.heap.size, 5, none⟩ = false := blk_frozen h6.xb 5
              have z1 : w6.cell? ⟨w1.heap.size, 5, none⟩ = some (.string ⟨#[]⟩) := blk_cell h6.xb 5
              obtain ⟨dA, dc, rfl, _, hC⟩ := Kd.R_reads hR
              have hst := Kd.C_string (P := Tryd.prog) (src := 22) (dst := 9) (c := dc) Tryd.underlying22 Tryd.underlying5 Tryd.underlying9 hC
              rw [str_nums] at hst
              clear h6 hg6 hR hC
              go_wp2_with fail
              go_meet
              refine Aside0.mk ?_
              have e1 : dPath kk l3 = txt 7 l3 := if_pos HS'.out
              rw [e1]
              exact H6.out.put 5 _
            · have hs' : k9 kk = false := by simpa using hs
              have HS' := Aside0.mk hs'
              clear hs
              rw [hs']
              clear hs'
              go_wp2_with fail
              go_meet
              have e1 : dPath kk l3 = ([], l3) := if_neg (by rw [HS'.out]; decide)
              refine Aside0.mk ?_
              rw [e1]
              exact HDS.out
          case rest =>
            clear HDS
            generalize hvs : dPath kk l3 = vs at *
            have HVS53 := Aside0.mk hvs
            clear hvs
            obtain ⟨v5, l4⟩ := vs
            have hh : wc.cell? ⟨w1.heap.size + 1 + 1, 5, none⟩ = some (.bool (hasD kk)) := blk_cell hcut.out.hb 5
            go_upto_if 53 with fail
            have HDS := hcut
            clear hcut hh
            go_cut [] (fun wc => ∃ v, Aside0 (DS w0 w g w1.heap.size (w1.heap.size + 1 + 1) kk wc (dData kk l4).2 (cells7 kk v1 n3 v3 v4 v5 v)) ∧ Aside0 (Kd.R (Kd.int .u8) 5 wc w.heap.size (fun j => w.heap.size < j) v (ints (dData kk l4).1)))
            case first =>
              by_cases hs : hasD kk = true
              · have HS' := Aside0.mk hs
                rw [hs]
                clear hs
                have f0 : wc.cell? ⟨w1.heap.size, 0, none⟩ = some (.int .u8 kk) := blk_cell HDS.out.xb 0
                go_wp2_with (go_at_call 44; refine (long_calls2 kk hk9 _).mono ?_; rintro e w5b ⟨rfl, rfl⟩)
                refine (text_calls (lng kk) (lng_le kk) HDS.out.rd (HDS.out.bel HB.out HG.out) HG.out).mono ?_
                rintro e w6 ⟨v, rfl, h6, hg6, hR⟩
                have h6 := HDS.out.only h6 hg6
                have H6 := Aside0.mk h6
                have f1 : w6.frozen? ⟨w1.heap.size, 6, none⟩ = false := blk_frozen h6.xb 6
                have z1 : w6.cell? ⟨w1.heap.size, 6, none⟩ = some (.slice none 0 0) := blk_cell h6.xb 6
                have HLT := Aside0.mk (blk_lt HDS.out.xb)
                have HGT := Aside0.mk HDS.out.rx
                obtain ⟨dA, dc, rfl⟩ := Kd.R_slice hR
                have HR := Aside0.mk hR
                clear h6 hg6 hR
                go_wp2_with fail
                go_meet
                have e1 : dData kk l4 = txt (lng kk) l4 := if_pos HS'.out
                rw [e1]
                refine ⟨.slice dA (ints (txt (lng kk) l4).1).length dc, Aside0.mk (H6.out.put 6 _), Aside0.mk ?_⟩
                have h1 := HLT.out
                have h2 := HGT.out
                refine Kd.R_lower (Kd.R_mono (Kd.R_step (Kd.R_bound HR.out) ?_) ?_) (by omega)
                · rintro j ⟨_, hj, _⟩ _
                  exact Below.heap_setCell _ _ _ _ (by simp; omega)
                · rintro j ⟨_, hj, _⟩
                  omega
              · have hs' : hasD kk = false := by simpa using hs
                have HS' := Aside0.mk hs'
                clear hs
                rw [hs']
                clear hs'
                go_wp2_with fail
                go_meet
                have e1 : dData kk l4 = ([], l4) := if_neg (by rw [HS'.out]; decide)
                rw [e1]
                exact ⟨.slice none 0 0, Aside0.mk HDS.out, Aside0.mk (Kd.R_nil _ _ _ _ _)⟩
            case rest =>
              clear HDS
              obtain ⟨dv, hcut, hR⟩ := hcut
              generalize hvs : dData kk l4 = vs at *
              have HVSD := Aside0.mk hvs
              clear hvs
              obtain ⟨v6, l5⟩ := vs
              obtain ⟨dA, dc, rfl⟩ := Kd.R_slice hR.out
              dsimp only at hcut hR
              have z0 : wc.cell? ⟨w.heap.size, 0, none⟩ = some (.int .u8 0) := blk_cell hcut.out.rb 0
              have f0 : wc.frozen? ⟨w.heap.size, 0, none⟩ = false := blk_frozen hcut.out.rb 0
              have z1 : wc.cell? ⟨w.heap.size, 1, none⟩ = some (.int .u8 0) := blk_cell hcut.out.rb 1
              have f1 : wc.frozen? ⟨w.heap.size, 1, none⟩ = false := blk_frozen hcut.out.rb 1
              have z2 : wc.cell? ⟨w.heap.size, 2, none⟩ = some (.int .i64 0) := blk_cell hcut.out.rb 2
              have f2 : wc.frozen? ⟨w.heap.size, 2, none⟩ = false := blk_frozen hcut.out.rb 2
              have z3 : wc.cell? ⟨w.heap.size, 3, none⟩ = some (.int .u32 0) := blk_cell hcut.out.rb 3
              have f3 : wc.frozen? ⟨w.heap.size, 3, none⟩ = false := blk_frozen hcut.out.rb 3
              have z4 : wc.cell? ⟨w.heap.size, 4, none⟩ = some (.bool false) := blk_cell hcut.out.rb 4
              have f4 : wc.frozen? ⟨w.heap.size, 4, none⟩ = false := blk_frozen hcut.out.rb 4
              have z5 : wc.cell? ⟨w.heap.size, 5, none⟩ = some (.string ⟨#[]⟩) := blk_cell hcut.out.rb 5
              have f5 : wc.frozen? ⟨w.heap.size, 5, none⟩ = false := blk_frozen hcut.out.rb 5
              have z6 : wc.cell? ⟨w.heap.size, 6, none⟩ = some (.slice none 0 0) := blk_cell hcut.out.rb 6
              have f6 : wc.frozen? ⟨w.heap.size, 6, none⟩ = false := blk_frozen hcut.out.rb 6
              have x0 : wc.cell? ⟨w1.heap.size, 0, none⟩ = some (.int .u8 kk) := blk_cell hcut.out.xb 0
              have x1 : wc.cell? ⟨w1.heap.size, 1, none⟩ = some (.int .u8 v1) := blk_cell hcut.out.xb 1
              have x2 : wc.cell? ⟨w1.heap.size, 2, none⟩ = some (.int .i64 n3) := blk_cell hcut.out.xb 2
              have x3 : wc.cell? ⟨w1.heap.size, 3, none⟩ = some (.int .u32 v3) := blk_cell hcut.out.xb 3
              have x4 : wc.cell? ⟨w1.heap.size, 4, none⟩ = some (.bool v4) := blk_cell hcut.out.xb 4
              have x5 : wc.cell? ⟨w1.heap.size, 5, none⟩ = some (.string (str v5)) := blk_cell hcut.out.xb 5
              have x6 : wc.cell? ⟨w1.heap.size, 6, none⟩ = some (.slice dA (ints v6).length dc) := blk_cell hcut.out.xb 6
              go_wp2_with fail
              have hb5 := put7_blk hcut.out.rb (.int .u8 kk) (.int .u8 v1) (.int .i64 n3) (.int .u32 v3) (.bool v4) (.string (str v5)) (.slice dA (ints v6).length dc)
              have HG5 : w.grownBy (put7 wc w.heap.size (.int .u8 kk) (.int .u8 v1) (.int .i64 n3) (.int .u32 v3) (.bool v4) (.string (str v5)) (.slice dA (ints v6).length dc)) (some g) := put7_grown hcut.out.gro (Nat.le_refl _) (.int .u8 kk) (.int .u8 v1) (.int .i64 n3) (.int .u32 v3) (.bool v4) (.string (str v5)) (.slice dA (ints v6).length dc)
              have HR5 := Kd.R_mono (ok' := fun _ => True) (Kd.R_step (w1 := put7 wc w.heap.size (.int .u8 kk) (.int .u8 v1) (.int .i64 n3) (.int .u32 v3) (.bool v4) (.string (str v5)) (.slice dA (ints v6).length dc)) hR.out (fun j hj _ => put7_far (by omega) _ _ _ _ _ _ _)) (fun _ _ => trivial)
              have HRD : Rd w0 (put7 wc w.heap.size (.int .u8 kk) (.int .u8 v1) (.int .i64 n3) (.int .u32 v3) (.bool v4) (.string (str v5)) (.slice dA (ints v6).length dc)) g l5 := by
                obtain ⟨v, h1, h2⟩ := hcut.out.rd
                exact ⟨v, (put7_far (by have := HGW.out; omega) _ _ _ _ _ _ _).trans h1, h2⟩
              clear z0 f0 x0 z1 f1 x1 z2 f2 x2 z3 f3 x3 z4 f4 x4 z5 f5 x5 z6 f6 x6
              unfold put7 at hb5 HG5 HR5 HRD
              generalize (((((((wc.setCell ⟨w.heap.size, 0, none⟩ (.int .u8 kk)).setCell ⟨w.heap.size, 1, none⟩ (.int .u8 v1)).setCell ⟨w.heap.size, 2, none⟩ (.int .i64 n3)).setCell ⟨w.heap.size, 3, none⟩ (.int .u32 v3)).setCell ⟨w.heap.size, 4, none⟩ (.bool v4)).setCell ⟨w.heap.size, 5, none⟩ (.string (str v5))).setCell ⟨w.heap.size, 6, none⟩ (.slice dA (ints v6).length dc)) = w9 at *
              have z0 : w9.cell? ⟨w.heap.size, 0, none⟩ = some (.int .u8 kk) := blk_cell hb5 0
              have z1 : w9.cell? ⟨w.heap.size, 1, none⟩ = some (.int .u8 v1) := blk_cell hb5 1
              have z2 : w9.cell? ⟨w.heap.size, 2, none⟩ = some (.int .i64 n3) := blk_cell hb5 2
              have z3 : w9.cell? ⟨w.heap.size, 3, none⟩ = some (.int .u32 v3) := blk_cell hb5 3
              have z4 : w9.cell? ⟨w.heap.size, 4, none⟩ = some (.bool v4) := blk_cell hb5 4
              have z5 : w9.cell? ⟨w.heap.size, 5, none⟩ = some (.string (str v5)) := blk_cell hb5 5
              have z6 : w9.cell? ⟨w.heap.size, 6, none⟩ = some (.slice dA (ints v6).length dc) := blk_cell hb5 6
              refine bodyPost_ret (v := .agg #[.int .u8 kk, .int .u8 v1, .int .i64 n3, .int .u32 v3, .bool v4, .string (str v5), .slice dA (ints v6).length dc]) (by simp [results, Tryd.results19, go_sem, z0, z1, z2, z3, z4, z5, z6] <;> rfl) rfl ?_
              have eres : res = (⟨kk, v1, n3, v3, v4, v5, v6⟩, l5) := by
                rw [HRES.out]
                unfold stepS
                rw [← HKK.out, HVS.out, HVD.out, HVS37.out]
                dsimp only
                rw [HVS47.out]
                dsimp only
                rw [HVS53.out]
                dsimp only
                rw [HVSD.out]
              rw [eres]
              exact ⟨[.int .u8 kk, .int .u8 v1, .int .i64 n3, .int .u32 v3, .bool v4, .string (str v5), .slice dA (ints v6).length dc], rfl, HRD, HG5, k33_mkM w9 _ _ (s33 ⟨kk, v1, n3, v3, v4, v5, v6⟩) (v6 := .slice dA (ints v6).length dc) HR5⟩
end Go.Proofs.YtfjjikabinelgaaDoor
namespace Go.Proofs.YtfjjikabinelgaaDoor
open Go.RowKit Go.Maps Go.Proofs.YtfjjikabinelgaaDoorW.PrintWords Go.Proofs.YtfjjikabinelgaaDoorW.PrintLast Go.Proofs.YtfjjikabinelgaaDoorW.PrintMore Sc PScriptLines
set_option linter.unusedVariables false
set_option linter.unusedSimpArgs false

theorem info33 : (Tryd.prog.info? 33).map (fun i => (i.zero, i.size, i.bytes)) = some (some (.agg zero33), 7, 64) := by kernel_rfl

def lenOf : Value → Nat
  | .slice _ n _ => n
  | _ => 0

/-- Decode's round: done, what is left. -/
structure DL (w : World) (l : List UInt8) (done : List Stp) (rem : List UInt8) (v : Value) (wr : World) : Prop where
  rd : Rd w wr w.heap.size rem
  out : Kd.R k33 33 wr w.heap.size (fun k => k ≠ w.heap.size) v (done.map s33)
  bel : Below w.heap.size w wr
  len : done.length ≤ 4096
  all : done ++ Sc.decode (4096 - done.length) rem = Sc.decode 4096 l

theorem DL.next {w wr w2 W : World} {l : List UInt8} {done : List Stp} {rem : List UInt8} {v v1 : Value} {cs : List Value} (H : DL w l done rem v wr) (hne : rem ≠ []) (hlt : done.length < 4096)
    (hrd : Rd w W w.heap.size (Sc.step rem).2) (hg : wr.grownBy W (some w.heap.size)) (hgl : w.heap.size < wr.heap.size)
    (hR : Kd.R k33 33 w2 w.heap.size (fun k => k ≠ w.heap.size) v1 (done.map s33 ++ [s33 (Sc.step rem).1])) (hb : Below w.heap.size w w2) (hg2 : W.grownBy w2 v.ownBlock) : DL w l (done ++ [(Sc.step rem).1]) (Sc.step rem).2 v1 w2 := by
  refine ⟨?_, ?_, hb, by simp; omega, ?_⟩
  · obtain ⟨u, h1, h2⟩ := hrd
    refine ⟨u, (hg2.block _ (blk_lt h1) ?_).trans h1, h2⟩
    intro e
    exact H.out.1 _ e.symm rfl
  · rw [List.map_append]
    exact hR
  · have h := H.all
    rw [show 4096 - done.length = (4096 - (done ++ [(Sc.step rem).1]).length) + 1 by simp; omega] at h
    have e : ∀ f b, b ≠ [] → Sc.decode (f + 1) b = (Sc.step b).1 :: Sc.decode f (Sc.step b).2 := fun f b hb => if_neg hb
    rw [e _ _ hne] at h
    rw [← h, List.append_assoc]
    rfl

theorem DL.after {w wr W : World} {l : List UInt8} {done : List Stp} {rem : List UInt8} {v : Value} (H : DL w l done rem v wr) (hg : wr.grownBy W (some w.heap.size)) : Kd.R k33 33 W w.heap.size (fun k => k ≠ w.heap.size) v (done.map s33) :=
  Kd.R_grown H.out hg (fun k hk e => hk (by injection e))

set_option maxHeartbeats 2000000 in
set_option maxRecDepth 100000 in
theorem decode_calls {v : Value} {l : List UInt8} (w : World) (h : By w v l) :
    Calls Tryd.prog 10 #[v] w fun e w' => ∃ u, e = .returned u ∧ Below w.heap.size w w' ∧ Kd.R k33 33 w' w.heap.size (fun _ => True) u ((Sc.decode 4096 l).map s33) := by
  have HB := Aside0.mk h
  obtain ⟨A, c, rfl, hc, hr⟩ := h
  clear hc hr
  go_enter Tryd.func10, Tryd.ntmps10
  go_wp2_with fail
  go_loopw [4] (fun v wr => ∃ done rem A c, v = .slice A done.length c ∧ Aside0 (DL w l done rem v wr)) (fun v _ => 4096 - lenOf v)
  case atStart => exact ⟨[], l, none, 0, rfl, Aside0.mk ⟨⟨_, heap_alloc_new w _, HB.out⟩, Kd.R_nil _ _ _ _ _, (Below.refl _ _).alloc (Nat.le_refl _) _, Nat.zero_le _, rfl⟩⟩
  case round =>
    obtain ⟨done, rem, vA, vc, rfl, HS⟩ := hrel
    obtain ⟨rv, rb, rA, rc, rfl, _, _⟩ := HS.out.rd
    have hcell : wr.cell? ⟨w.heap.size, 0, none⟩ = some (.slice rA rem.length rc) := blk_cell rb 0
    have hgl := blk_lt rb
    have hlen := HS.out.len
    clear rb
    by_cases hcond : rem ≠ [] ∧ done.length < 4096
    · obtain ⟨hne, hlt⟩ := hcond
      have hpos : 0 < rem.length := List.length_pos_iff.2 hne
      have HNE := Aside0.mk hne
      clear hne
      go_wp2_with fail
      refine (step_calls HS.out.rd HS.out.bel (Nat.le_refl _)).mono ?_
      rintro e W ⟨cs, rfl, hrd, hg, hM⟩
      obtain ⟨v6, rfl, h6⟩ := k33_openM hM
      have HRD := Aside0.mk hrd
      have HG := Aside0.mk hg
      have HM := Aside0.mk (k33.M_lower HS.out.bel.size (k33.M_bound hM))
      clear hrd hg hM h6
      have HBW : Aside0 (Below w.heap.size w W) := Aside0.mk (below_only HS.out.bel (Nat.le_refl _) HG.out)
      go_wp2_with (at_builtin; refine Kd.R_append k33 (w0 := w) w.heap.size rfl (.tmp 19) (.tmp 22) 25 33 (.agg zero33) 64 rfl Tryd.underlying25 info33 rfl (by decide) (by decide) (.slice vA done.length vc) (done.map s33) (s33 (Sc.step rem).1) _ (fun k => k ≠ w.heap.size) _ rfl rfl HM.out ?aK (fun k hk => by have := HG.out.size; omega) (HS.out.after HG.out) HBW.out HBW.out.size (by rw [List.length_map]; omega) ?_; (case aK => intro k hk; have h1 := hk.2.1; have h2 := Kd.R_lt HS.out.out; exact ⟨by omega, fun e => by have := h2 k e.symm; omega⟩); intro v1 w2 hR2 hb2 hg2 hat2)
      obtain ⟨xA, xc, rfl⟩ := Kd.R_slice hR2
      have el : (done.map s33 ++ [s33 (Sc.step rem).1]).length = done.length + 1 := by simp
      rw [el] at hR2 ⊢
      go_roundw
      case rel => exact ⟨done ++ [(Sc.step rem).1], (Sc.step rem).2, xA, xc, by simp, Aside0.mk (HS.out.next HNE.out hlt HRD.out HG.out hgl hR2 hb2 hg2 (cs := []))⟩
      case measure => simp [lenOf]; omega
    · have HEND : Aside0 (done = Sc.decode 4096 l) := Aside0.mk (by
        rw [← HS.out.all]
        by_cases hr : rem = []
        · subst hr
          have : ∀ f, Sc.decode f [] = [] := by intro f; cases f <;> rfl
          rw [this, List.append_nil]
        · have hl4 : done.length = 4096 := by
            rcases Nat.lt_or_ge done.length 4096 with h | h
            · exact absurd ⟨hr, h⟩ hcond
            · omega
          rw [hl4]
          simp [Sc.decode])
      by_cases hr : rem = []
      · subst hr
        clear hcond
        go_wp2_with fail
        go_ret
        refine ⟨_, rfl, HS.out.bel, ?_⟩
        rw [← HEND.out]
        exact Kd.R_mono HS.out.out (fun _ _ => trivial)
      · have hpos : 0 < rem.length := List.length_pos_iff.2 hr
        have hl4 : done.length = 4096 := by
          rcases Nat.lt_or_ge done.length 4096 with h | h
          · exact absurd ⟨hr, h⟩ hcond
          · omega
        have hnl : ¬ ((done.length : Int) < 4096) := by omega
        clear hcond hr hl4
        go_wp2_with fail
        go_ret
        refine ⟨_, rfl, HS.out.bel, ?_⟩
        rw [← HEND.out]
        exact Kd.R_mono HS.out.out (fun _ _ => trivial)
end Go.Proofs.YtfjjikabinelgaaDoor
