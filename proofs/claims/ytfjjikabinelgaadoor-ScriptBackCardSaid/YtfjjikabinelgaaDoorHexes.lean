/- Walks of the script's line: bytes out of digits. -/
import Derived.Test.YtfjjikabinelgaaDoorLine
import Derived.Deep.DeepMust
namespace Go.Proofs.YtfjjikabinelgaaDoor
open Go.RowKit Go.Proofs.YtfjjikabinelgaaDoorW.PrintWords Go.Proofs.YtfjjikabinelgaaDoorW.PrintLast Go.Proofs.YtfjjikabinelgaaDoorW.PrintMore Sc PScriptLines
set_option linter.unusedVariables false
set_option linter.unusedSimpArgs false

/-- A digit's place; -1: it is none. -/
def ix (c : UInt8) : Int := if hexv c = 16 then -1 else (hexv c : Int)
def hexes : List UInt8 := [48, 49, 50, 51, 52, 53, 54, 55, 56, 57, 97, 98, 99, 100, 101, 102]
theorem ix_all : ∀ n : Fin 256, Lib.indexByte hexes (UInt8.ofNat n.val) = ix (UInt8.ofNat n.val) := by decide +kernel
theorem ix_eq (c : UInt8) : Lib.indexByte hexes c = ix c := by
  have h := ix_all ⟨c.toNat, c.toNat_lt⟩
  simp only [UInt8.ofNat_toNat] at h
  exact h

def hexstr : ByteArray := ⟨#[48, 49, 50, 51, 52, 53, 54, 55, 56, 57, 97, 98, 99, 100, 101, 102]⟩
theorem place_any (c : UInt8) (w : World) : Calls Tryd.prog 53 #[.string ⟨#[48, 49, 50, 51, 52, 53, 54, 55, 56, 57, 97, 98, 99, 100, 101, 102]⟩, .int .u8 c.toNat] w fun e w' => e = .returned (.int .i64 (ix c)) ∧ w' = w := by
  refine (Tryd.strings_IndexByte ⟨#[48, 49, 50, 51, 52, 53, 54, 55, 56, 57, 97, 98, 99, 100, 101, 102]⟩ (c.toNat : Int) w).mono ?_
  rintro e w' ⟨rfl, rfl⟩
  refine ⟨?_, rfl⟩
  have e1 : ((c.toNat : Int)).toNat.toUInt8 = c := by
    rw [Int.toNat_natCast]
    exact UInt8.ofNat_toNat
  rw [e1, ← ix_eq c]
  rfl

theorem unhexW_snoc (f : UInt8 → Nat) (a b : UInt8) : ∀ l : List UInt8, l.length % 2 = 0 → unhexW f (l ++ [a, b]) = unhexW f l ++ [UInt8.ofNat (16 * f a + f b)]
  | [], _ => rfl
  | [_], h => by simp at h
  | x :: y :: r, h => by
    simp only [List.cons_append, unhexW]
    rw [unhexW_snoc f a b r (by simp at h; omega)]
theorem unbad_snoc (a b : UInt8) : ∀ l : List UInt8, l.length % 2 = 0 → unbad (l ++ [a, b]) = (unbad l || decide (hexv a = 16) || decide (hexv b = 16))
  | [], _ => by simp [unbad]
  | [_], h => by simp at h
  | x :: y :: r, h => by
    simp only [List.cons_append, unbad]
    rw [unbad_snoc a b r (by simp at h; omega)]
    simp [Bool.or_assoc]
theorem unhexW_end (f : UInt8 → Nat) (l : List UInt8) (c : UInt8) (h : l.length % 2 = 0) : unhexW f (l ++ [c]) = unhexW f l := by
  induction l using unhexW.induct with
  | case1 x y r ih => simp only [List.cons_append, unhexW]; rw [ih (by simp at h; omega)]
  | case2 l hl =>
    match l, hl, h with
    | [], _, _ => rfl
    | [x], _, h => simp at h
    | x :: y :: r, hl, _ => exact absurd rfl (hl x y r)
theorem unbad_end (l : List UInt8) (c : UInt8) (h : l.length % 2 = 0) : unbad (l ++ [c]) = unbad l := by
  induction l using unbad.induct with
  | case1 x y r ih => simp only [List.cons_append, unbad]; rw [ih (by simp at h; omega)]
  | case2 l hl =>
    match l, hl, h with
    | [], _, _ => rfl
    | [x], _, h => simp at h
    | x :: y :: r, hl, _ => exact absurd rfl (hl x y r)

def Sx (w0 w w' : World) (g : Nat) (s : List UInt8) (ql : List (List UInt8)) (b0 : Bool) (v : Value) (k : Nat) : Prop :=
  Ln w0 w' g (ql, b0 || unbad (s.take (2 * k))) ∧ w.grownBy w' (some g) ∧ Kd.R (Kd.int .u8) 5 w' w.heap.size (fun _ => True) v (ints (unhexW hexm (s.take (2 * k))))

theorem unhexW_len (f : UInt8 → Nat) : ∀ l : List UInt8, (unhexW f l).length ≤ l.length
  | [] => Nat.le_refl _
  | [_] => by simp [unhexW]
  | x :: y :: r => by
    have := unhexW_len f r
    simp only [unhexW, List.length_cons]; omega
theorem ix_sign (c : UInt8) : hexv c = 16 ∧ ix c < 0 ∨ hexv c ≠ 16 ∧ 0 ≤ ix c := by
  unfold ix
  by_cases h : hexv c = 16
  · exact .inl ⟨h, by rw [if_pos h]; omega⟩
  · exact .inr ⟨h, by rw [if_neg h]; omega⟩
theorem byte_all : ∀ i j : Fin 17, bits BinOp.or IntKind.i64 (wrap64 ((if i.val = 16 then -1 else (i.val : Int)) * 16)) (bits BinOp.and IntKind.i64 (if j.val = 16 then -1 else (j.val : Int)) 15) % 256 = ((16 * (if i.val = 16 then 15 else i.val) + (if j.val = 16 then 15 else j.val) : Nat) : Int) := by decide +kernel
theorem byte_eq (a b : UInt8) : bits BinOp.or IntKind.i64 (wrap64 (ix a * 16)) (bits BinOp.and IntKind.i64 (ix b) 15) % 256 = ((16 * hexm a + hexm b : Nat) : Int) :=
  byte_all ⟨hexv a, by have := hexv_le a; omega⟩ ⟨hexv b, by have := hexv_le b; omega⟩

theorem sx_own {w0 w wr : World} {g : Nat} {s : List UInt8} {ql : List (List UInt8)} {b1 : Bool} {v : Value} {k : Nat} (HS : Sx w0 w wr g s ql b1 v k) (hgw : g < w.heap.size) (nq : Nat) (b : Bool) :
    ((wr.drewN nq).setCell ⟨g, 1, none⟩ (.bool b)).ownsRow w.heap.size 5 1 v (ints (unhexW hexm (s.take (2 * k)))).length (nums .u8 (ints (unhexW hexm (s.take (2 * k))))) := by
  have h := Kd.own_of_R HS.2.2
  exact own_setCell (pw_own_drewN h nq) (fun e => by have := Kd.R_base HS.2.2 g e.symm; omega) _

theorem sx_next {w0 w wr w2 : World} {g : Nat} {s : List UInt8} {ql : List (List UInt8)} {b1 : Bool} {v v1 : Value} {k nq : Nat} {ca cb : UInt8} (HS : Sx w0 w wr g s ql b1 v k) (hgw : g < w.heap.size) (hk1 : 2 * k + 1 < s.length) (GA : s[2 * k] = ca) (GB : s[2 * k + 1] = cb) {bb : Bool}
    (hbb : bb = ((b1 || unbad (s.take (2 * k))) || decide (hexv ca = 16) || decide (hexv cb = 16))) {x : Int} (hx : x = ((16 * hexm ca + hexm cb : Nat) : Int)) (HB2 : Below w.heap.size ((wr.drewN nq).setCell ⟨g, 1, none⟩ (.bool bb)) w2)
    (HO2 : w2.ownsRow w.heap.size 5 1 v1 (ints (unhexW hexm (s.take (2 * k))) ++ [x]).length (nums .u8 (ints (unhexW hexm (s.take (2 * k))) ++ [x]))) : Sx w0 w w2 g s ql b1 v1 (k + 1) := by
  obtain ⟨⟨A, c, hb, hc, hr⟩, hG, hR⟩ := HS
  have ht : s.take (2 * (k + 1)) = s.take (2 * k) ++ [ca, cb] := by
    rw [show 2 * (k + 1) = 2 * k + 1 + 1 by omega, List.take_succ_eq_append_getElem hk1, List.take_succ_eq_append_getElem (by omega), GA, GB, List.append_assoc]
    rfl
  have hl : (s.take (2 * k)).length % 2 = 0 := by rw [List.length_take, Nat.min_eq_left (by omega)]; omega
  have hgr : g < wr.heap.size := blk_lt hb
  have hb2 : ((wr.drewN nq).setCell ⟨g, 1, none⟩ (.bool bb)).heap[g]? = some (.cells #[.slice A ql.length c, .bool bb] 62 (0, 0)) := blk_set (w := wr.drewN nq) hb 1 _
  refine ⟨⟨A, c, ?_, hc, hr⟩, ⟨HB2.os.trans hG.os, HB2.tape.trans hG.tape, HB2.output.trans hG.output, Nat.le_trans hG.size (by have := HB2.size; simpa [World.setCell] using this), fun i hi hne => ?_⟩, ?_⟩
  · rw [ht, unbad_snoc ca cb _ hl, HB2.block g hgw, hb2, hbb]
    simp only [Bool.or_assoc]
  · refine (HB2.block i hi).trans ?_
    rw [Below.heap_setCell _ _ _ _ (fun e => hne (by rw [e]))]
    exact hG.block i hi hne
  · rw [ht, unhexW_snoc hexm ca cb _ hl, ints_app]
    have h8 : 16 * hexm ca + hexm cb < 256 := by
      have h1 := hexv_le ca
      have h2 := hexv_le cb
      unfold hexm
      split <;> split <;> omega
    have e : ints [UInt8.ofNat (16 * hexm ca + hexm cb)] = [x] := by
      rw [hx]
      simp only [ints, List.map_cons, List.map_nil, UInt8.toNat_ofNat']
      rw [Nat.mod_eq_of_lt (by omega)]
    rw [e]
    exact Kd.R_of_own (enc := Value.int .u8) (h1 := fun _ => rfl) HO2 (fun _ _ => trivial)

/-- How the line stands behind the first test of its bytes. -/
def Case27 (s : List UInt8) (qb b1 : Bool) : Prop :=
  (qb = false ∧ (((s.length : Int) == 0) = false) ∧ ((((s.length : Int) % 2) != 0) = b1) ∧ b1 = b1) ∨ (qb = true ∧ True ∧ True ∧ true = b1) ∨ (qb = false ∧ (((s.length : Int) == 0) = true) ∧ True ∧ true = b1)

theorem s_start {w0 w w1 : World} {g : Nat} {s : List UInt8} {ql : List (List UInt8)} {qb z b1 : Bool} {A : Option Addr} {c : Nat} (hz : z = b1) (hb : w1.heap[g]? = some (.cells #[.slice A ql.length c, .bool qb] 62 (0, 0))) (hc : ql.length ≤ c) (hr : Kd.C Kd.string w0 A (ql.map str).length (ql.map str)) (hg : w.grownBy w1 (some g)) :
    Sx w0 w (w1.setCell ⟨g, 1, none⟩ (.bool z)) g s ql b1 (.slice none 0 0) 0 := by
  refine ⟨?_, grown_trans' hg (only_setN _ _), Kd.R_nil _ _ _ _ _⟩
  have e : (b1 || unbad (s.take (2 * 0))) = z := by simp [unbad, hz]
  rw [e]
  exact ln_set z hb hc hr

set_option maxHeartbeats 6000000 in
set_option maxRecDepth 100000 in
theorem bytes_walk {w0 w : World} {g : Nat} {s : List UInt8} {ql : List (List UInt8)} {qb : Bool} (b1 : Bool) (hcase : Case27 s qb b1) (hn : Nx w0 w g s (ql, qb)) (hB : Below w0.heap.size w0 w) (hg : w0.heap.size ≤ g) (hgw : g < w.heap.size) (hsz : s.length ≤ 1000000) (hs : s ≠ [45]) :
    Calls Tryd.prog 27 #[.pointer (some ⟨g, 0, none⟩)] w fun e w' => ∃ v, e = .returned v ∧ Sx w0 w w' g s ql b1 v (s.length / 2) := by
  have HN := Aside0.mk hn
  have HBB := Aside0.mk hB
  have hs1 : (s == [45]) = false := by simpa using hs
  clear hn hB hs
  rcases hcase with ⟨rfl, hl0, hodd, hz⟩ | ⟨rfl, hl0, hodd, hz⟩ | ⟨rfl, hl0, hodd, hz⟩
  all_goals
    have HZ := Aside0.mk hz
    clear hz
    go_enter Tryd.func27, Tryd.ntmps27
    go_wp2_with fail
    refine HN.out.mono ?_
    rintro e w1 ⟨rfl, ⟨A, c, hb, hc, hr⟩, hg1⟩
    have hc1 : w1.cell? ⟨g, 1, none⟩ = some (.bool _) := blk_cell hb 1
    have hf1 : w1.frozen? ⟨g, 1, none⟩ = false := blk_frozen hb 1
    have Hb := Aside0.mk hb
    have Hg1 := Aside0.mk hg1
    clear hb hg1
    have e1 : (str s).toList = s := str_toList s
    have e2 : (str s).size = s.length := rfl
    go_wp2_with fail
    go_loopw [4, 5] (fun v i wr => ∃ k : Nat, i = .int .i64 (2 * (k : Int)) ∧ 2 * k ≤ s.length ∧ Aside0 (Sx w0 w wr g s ql b1 v k)) (fun _ i _ => s.length - (intOf i).toNat)
    case atStart => exact ⟨0, rfl, by omega, Aside0.mk (s_start (by first | rfl | exact HZ.out) Hb.out hc hr Hg1.out)⟩
    case round =>
      obtain ⟨k, rfl, hk, HS⟩ := hrel
      by_cases hlt : 2 * (k : Int) + 1 < s.length
      · have hk1 : 2 * k + 1 < s.length := by omega
        have i0 : 0 ≤ 2 * (k : Int) := by omega
        have i1 : 2 * (k : Int) < s.length := by omega
        have i2 : 0 ≤ 2 * (k : Int) + 1 := by omega
        go_wp2_with fail
        go_quiet ((go_at_call 53; exact Calls.quiet_of_same (place_any _ _)))
        obtain ⟨HL, HG, HR⟩ := HS.out
        obtain ⟨A1, c1, hb1, hc1', hr1⟩ := HL
        have hcw : wr.cell? ⟨g, 1, none⟩ = some (.bool (b1 || unbad (s.take (2 * k)))) := blk_cell hb1 1
        have hfw : wr.frozen? ⟨g, 1, none⟩ = false := blk_frozen hb1 1
        have HBD := Aside0.mk hb1
        clear hb1
        generalize hbb : (b1 || unbad (s.take (2 * k))) = bb at *
        have ga : (str s)[2 * k]'(by rw [e2]; omega) = s[2 * k]'(by omega) := rfl
        have gb : (str s)[2 * k + 1]'(by rw [e2]; omega) = s[2 * k + 1]'(by omega) := rfl
        rw [ga, gb]
        generalize hca : s[2 * k]'(by omega) = ca
        generalize hcb : s[2 * k + 1]'(by omega) = cb
        have GA := Aside0.mk hca
        have GB := Aside0.mk hcb
        have GBB := Aside0.mk hbb
        clear hca hcb hbb ga gb HG HR
        have hxa := hexv_le ca
        have hxb := hexv_le cb
        generalize hia : ix ca = ia
        generalize hib : ix cb = ib
        obtain ⟨x, hx⟩ : ∃ x : Int, x = ((16 * hexm ca + hexm cb : Nat) : Int) := ⟨_, rfl⟩
        have hxv : bits BinOp.or IntKind.i64 (wrap64 (ia * 16)) (bits BinOp.and IntKind.i64 ib 15) % 256 = x := by
          rw [← hia, ← hib, hx]
          exact byte_eq ca cb
        have HX := Aside0.mk hx
        clear hx
        have hlen : (ints (unhexW hexm (s.take (2 * k)))).length ≤ 140737488355327 := by
          have := unhexW_len hexm (s.take (2 * k))
          rw [ints_len]
          rw [List.length_take] at this
          omega
        have hwz : w.heap.size ≤ wr.heap.size := HS.out.2.1.size
        have HAB := Aside0.mk (show (hexv ca = 16 ∧ ia < 0 ∨ hexv ca ≠ 16 ∧ 0 ≤ ia) ∧ (hexv cb = 16 ∧ ib < 0 ∨ hexv cb ≠ 16 ∧ 0 ≤ ib) from ⟨by rw [← hia]; exact ix_sign ca, by rw [← hib]; exact ix_sign cb⟩)
        clear hia hib
        cases bb
        · obtain ⟨⟨qa, ra⟩ | ⟨qa, ra⟩, ⟨qb, rb⟩ | ⟨qb, rb⟩⟩ := HAB.out
          all_goals
            have QA := Aside0.mk qa
            have QB := Aside0.mk qb
            clear HAB qa qb
            go_wp2_with (at_builtin; refine print_append_num (w0 := _) w.heap.size rfl (.tmp 61) (.tmp 68) 22 5 .u8 1 rfl Tryd.underlying22 info5 (by decide) u4 (ints (unhexW hexm (s.take (2 * k)))) x rfl (by first | rfl | (go_simp; done) | (go_simp; rfl)) (sx_own HS.out hgw nq _) (Below.refl _ _) (by first | exact hwz | (go_simp; done)) (by omega) ?_; intro v1 w2 HO2 HB2 hg2 hat2)
            go_roundw
            case rel => exact ⟨k + 1, congrArg (Value.int .i64) (by omega), by omega, Aside0.mk (sx_next HS.out hgw hk1 GA.out GB.out (by rw [GBB.out]; first | (simp [QA.out, QB.out]; done) | (rw [show decide (ia < 0) = false from decide_eq_false (by omega), show decide (ib < 0) = false from decide_eq_false (by omega)]; simp [QA.out, QB.out]; done) | (simp [QA.out, QB.out]; omega)) HX.out HB2 HO2)⟩
            case measure => simp [intOf]; omega
        · clear HAB
          go_wp2_with (at_builtin; refine print_append_num (w0 := _) w.heap.size rfl (.tmp 61) (.tmp 68) 22 5 .u8 1 rfl Tryd.underlying22 info5 (by decide) u4 (ints (unhexW hexm (s.take (2 * k)))) x rfl (by first | rfl | (go_simp; done) | (go_simp; rfl)) (sx_own HS.out hgw nq _) (Below.refl _ _) (by first | exact hwz | (go_simp; done)) (by omega) ?_; intro v1 w2 HO2 HB2 hg2 hat2)
          go_roundw
          case rel => exact ⟨k + 1, congrArg (Value.int .i64) (by omega), by omega, Aside0.mk (sx_next HS.out hgw hk1 GA.out GB.out (by rw [GBB.out]; simp) HX.out HB2 HO2)⟩
          case measure => simp [intOf]; omega
      · go_wp2
        go_ret
        have hk2 : s.length / 2 = k := by omega
        exact ⟨u4, rfl, by rw [hk2]; exact HS.out⟩

theorem bytes_dash {w0 w : World} {g : Nat} {ql : List (List UInt8)} {qb : Bool} (hn : Nx w0 w g [45] (ql, qb)) :
    Calls Tryd.prog 27 #[.pointer (some ⟨g, 0, none⟩)] w fun e w' => e = .returned (.slice none 0 0) ∧ Ln w0 w' g (ql, qb) ∧ w.grownBy w' (some g) := by
  have HN := Aside0.mk hn
  clear hn
  go_enter Tryd.func27, Tryd.ntmps27
  go_wp2_with fail
  refine HN.out.mono ?_
  rintro e w1 ⟨rfl, hl, hg1⟩
  have HL := Aside0.mk hl
  have HG := Aside0.mk hg1
  clear hl hg1
  have e1 : (str [45]).toList = [45] := str_toList _
  go_wp2_with fail
  go_ret
  exact ⟨rfl, HL.out, HG.out⟩

theorem bytes_calls {w0 w : World} {g : Nat} {p : St} (h : Ln w0 w g p) (hB : Below w0.heap.size w0 w) (hg : w0.heap.size ≤ g) (hgw : g < w.heap.size) (hsz : (nextP p).1.length ≤ 1000000) :
    Calls Tryd.prog 27 #[.pointer (some ⟨g, 0, none⟩)] w fun e w' => ∃ v, e = .returned v ∧ Ln w0 w' g (bytesP p).2 ∧ w.grownBy w' (some g) ∧ Kd.R (Kd.int .u8) 5 w' w.heap.size (fun _ => True) v (ints (bytesP p).1) := by
  have hn : Nx w0 w g (nextP p).1 (nextP p).2 := next_calls h hB
  unfold bytesP
  generalize (nextP p).1 = s at *
  generalize (nextP p).2 = q at *
  obtain ⟨ql, qb⟩ := q
  by_cases hs : s = [45]
  · subst hs
    rw [if_pos rfl]
    refine (bytes_dash hn).mono ?_
    rintro e w' ⟨rfl, h1, h2⟩
    exact ⟨_, rfl, h1, h2, Kd.R_nil _ _ _ _ _⟩
  · rw [if_neg hs]
    have hlt : s.take (2 * (s.length / 2)) = s ∨ ∃ c, s = s.take (2 * (s.length / 2)) ++ [c] := by
      by_cases he : s.length % 2 = 0
      · exact .inl (List.take_of_length_le (by omega))
      · refine .inr ⟨s[2 * (s.length / 2)]'(by omega), ?_⟩
        rw [← List.take_succ_eq_append_getElem (by omega), List.take_of_length_le (by omega)]
    have hle : (s.take (2 * (s.length / 2))).length % 2 = 0 := by rw [List.length_take, Nat.min_eq_left (by omega)]; omega
    have eu : unhexW hexm (s.take (2 * (s.length / 2))) = unhexW hexm s := by
      rcases hlt with h | ⟨c, h⟩
      · rw [h]
      · conv => rhs; rw [h]
        exact (unhexW_end hexm _ c hle).symm
    have eb : unbad (s.take (2 * (s.length / 2))) = unbad s := by
      rcases hlt with h | ⟨c, h⟩
      · rw [h]
      · conv => rhs; rw [h]
        exact (unbad_end _ c hle).symm
    have hcase : Case27 s qb (qb || decide (s.length = 0) || decide (s.length % 2 ≠ 0)) := by
      cases qb
      · by_cases h0 : s.length = 0
        · exact .inr (.inr ⟨rfl, by rw [beq_iff_eq]; omega, trivial, by simp [h0]⟩)
        · refine .inl ⟨rfl, by rw [beq_eq_false_iff_ne]; omega, ?_, rfl⟩
          have : decide (s.length = 0) = false := by simpa using h0
          rw [this, Bool.false_or, Bool.false_or, Bool.eq_iff_iff, bne_iff_ne, decide_eq_true_eq]; omega
      · exact .inr (.inl ⟨rfl, trivial, trivial, rfl⟩)
    refine (bytes_walk _ hcase hn hB hg hgw hsz hs).mono ?_
    rintro e w' ⟨v, rfl, h1, h2, h3⟩
    rw [eb] at h1
    rw [eu] at h3
    exact ⟨v, rfl, h1, h2, h3⟩
end Go.Proofs.YtfjjikabinelgaaDoor
