/- Walks of the digits, the kinds' words, Split and the paths. -/
import Derived.Test.YtfjjikabinelgaaDoorMLib
import Derived.Deep.DeepMust
import Derived.Maps.OwnSet
import Derived.Maps.OwnOps
import Derived.StringKeys
namespace Go.Proofs.YtfjjikabinelgaaDoor
open Go.RowKit Go.Proofs.YtfjjikabinelgaaDoorW.PrintWords Go.Proofs.YtfjjikabinelgaaDoorW.PrintLast Go.Proofs.YtfjjikabinelgaaDoorW.PrintMore Sc PScriptLines
set_option linter.unusedVariables false
set_option linter.unusedSimpArgs false

/-- A digit's place; -1: it is none. -/
def ix (c : UInt8) : Int := if hexv c = 16 then -1 else (hexv c : Int)
def hexes : List UInt8 := [48, 49, 50, 51, 52, 53, 54, 55, 56, 57, 97, 98, 99, 100, 101, 102]
theorem ix_all : ∀ n : Fin 256, Lib.indexByte hexes (UInt8.ofNat n.val) = ix (UInt8.ofNat n.val) := by decide +kernel
theorem ix_eq (c : UInt8) : Lib.indexByte hexes c = ix c := by
  have h := ix_all ⟨c.toNat, c.toNat_lt⟩
  simp only [UInt8.ofNat_toNat] at h
  exact h

def hexstr : ByteArray := ⟨#[48, 49, 50, 51, 52, 53, 54, 55, 56, 57, 97, 98, 99, 100, 101, 102]⟩
theorem place_any (c : UInt8) (w : World) : Calls Tryd.prog 53 #[.string ⟨#[48, 49, 50, 51, 52, 53, 54, 55, 56, 57, 97, 98, 99, 100, 101, 102]⟩, .int .u8 c.toNat] w fun e w' => e = .returned (.int .i64 (ix c)) ∧ w' = w := by
  refine (Tryd.strings_IndexByte ⟨#[48, 49, 50, 51, 52, 53, 54, 55, 56, 57, 97, 98, 99, 100, 101, 102]⟩ (c.toNat : Int) w).mono ?_
  rintro e w' ⟨rfl, rfl⟩
  refine ⟨?_, rfl⟩
  have e1 : ((c.toNat : Int)).toNat.toUInt8 = c := by
    rw [Int.toNat_natCast]
    exact UInt8.ofNat_toNat
  rw [e1, ← ix_eq c]
  rfl

theorem unhexW_snoc (f : UInt8 → Nat) (a b : UInt8) : ∀ l : List UInt8, l.length % 2 = 0 → unhexW f (l ++ [a, b]) = unhexW f l ++ [UInt8.ofNat (16 * f a + f b)]
  | [], _ => rfl
  | [_], h => by simp at h
  | x :: y :: r, h => by
    simp only [List.cons_append, unhexW]
    rw [unhexW_snoc f a b r (by simp at h; omega)]
theorem unbad_snoc (a b : UInt8) : ∀ l : List UInt8, l.length % 2 = 0 → unbad (l ++ [a, b]) = (unbad l || decide (hexv a = 16) || decide (hexv b = 16))
  | [], _ => by simp [unbad]
  | [_], h => by simp at h
  | x :: y :: r, h => by
    simp only [List.cons_append, unbad]
    rw [unbad_snoc a b r (by simp at h; omega)]
    simp [Bool.or_assoc]
theorem unhexW_end (f : UInt8 → Nat) (l : List UInt8) (c : UInt8) (h : l.length % 2 = 0) : unhexW f (l ++ [c]) = unhexW f l := by
  induction l using unhexW.induct with
  | case1 x y r ih => simp only [List.cons_append, unhexW]; rw [ih (by simp at h; omega)]
  | case2 l hl =>
    match l, hl, h with
    | [], _, _ => rfl
    | [x], _, h => simp at h
    | x :: y :: r, hl, _ => exact absurd rfl (hl x y r)
theorem unbad_end (l : List UInt8) (c : UInt8) (h : l.length % 2 = 0) : unbad (l ++ [c]) = unbad l := by
  induction l using unbad.induct with
  | case1 x y r ih => simp only [List.cons_append, unbad]; rw [ih (by simp at h; omega)]
  | case2 l hl =>
    match l, hl, h with
    | [], _, _ => rfl
    | [x], _, h => simp at h
    | x :: y :: r, hl, _ => exact absurd rfl (hl x y r)

def Sx (w0 w w' : World) (g : Nat) (s : List UInt8) (ql : List (List UInt8)) (b0 : Bool) (v : Value) (k : Nat) : Prop :=
  Ln w0 w' g (ql, b0 || unbad (s.take (2 * k))) ∧ w.grownBy w' (some g) ∧ Kd.R (Kd.int .u8) 5 w' w.heap.size (fun _ => True) v (ints (unhexW hexm (s.take (2 * k))))

theorem unhexW_len (f : UInt8 → Nat) : ∀ l : List UInt8, (unhexW f l).length ≤ l.length
  | [] => Nat.le_refl _
  | [_] => by simp [unhexW]
  | x :: y :: r => by
    have := unhexW_len f r
    simp only [unhexW, List.length_cons]; omega
theorem ix_sign (c : UInt8) : hexv c = 16 ∧ ix c < 0 ∨ hexv c ≠ 16 ∧ 0 ≤ ix c := by
  unfold ix
  by_cases h : hexv c = 16
  · exact .inl ⟨h, by rw [if_pos h]; omega⟩
  · exact .inr ⟨h, by rw [if_neg h]; omega⟩
theorem byte_all : ∀ i j : Fin 17, bits BinOp.or IntKind.i64 (wrap64 ((if i.val = 16 then -1 else (i.val : Int)) * 16)) (bits BinOp.and IntKind.i64 (if j.val = 16 then -1 else (j.val : Int)) 15) % 256 = ((16 * (if i.val = 16 then 15 else i.val) + (if j.val = 16 then 15 else j.val) : Nat) : Int) := by decide +kernel
theorem byte_eq (a b : UInt8) : bits BinOp.or IntKind.i64 (wrap64 (ix a * 16)) (bits BinOp.and IntKind.i64 (ix b) 15) % 256 = ((16 * hexm a + hexm b : Nat) : Int) :=
  byte_all ⟨hexv a, by have := hexv_le a; omega⟩ ⟨hexv b, by have := hexv_le b; omega⟩

theorem sx_own {w0 w wr : World} {g : Nat} {s : List UInt8} {ql : List (List UInt8)} {b1 : Bool} {v : Value} {k : Nat} (HS : Sx w0 w wr g s ql b1 v k) (hgw : g < w.heap.size) (nq : Nat) (b : Bool) :
    ((wr.drewN nq).setCell ⟨g, 1, none⟩ (.bool b)).ownsRow w.heap.size 5 1 v (ints (unhexW hexm (s.take (2 * k)))).length (nums .u8 (ints (unhexW hexm (s.take (2 * k))))) := by
  have h := Kd.own_of_R HS.2.2
  exact own_setCell (pw_own_drewN h nq) (fun e => by have := Kd.R_base HS.2.2 g e.symm; omega) _

theorem sx_next {w0 w wr w2 : World} {g : Nat} {s : List UInt8} {ql : List (List UInt8)} {b1 : Bool} {v v1 : Value} {k nq : Nat} {ca cb : UInt8} (HS : Sx w0 w wr g s ql b1 v k) (hgw : g < w.heap.size) (hk1 : 2 * k + 1 < s.length) (GA : s[2 * k] = ca) (GB : s[2 * k + 1] = cb) {bb : Bool}
    (hbb : bb = ((b1 || unbad (s.take (2 * k))) || decide (hexv ca = 16) || decide (hexv cb = 16))) {x : Int} (hx : x = ((16 * hexm ca + hexm cb : Nat) : Int)) (HB2 : Below w.heap.size ((wr.drewN nq).setCell ⟨g, 1, none⟩ (.bool bb)) w2)
    (HO2 : w2.ownsRow w.heap.size 5 1 v1 (ints (unhexW hexm (s.take (2 * k))) ++ [x]).length (nums .u8 (ints (unhexW hexm (s.take (2 * k))) ++ [x]))) : Sx w0 w w2 g s ql b1 v1 (k + 1) := by
  obtain ⟨⟨A, c, hb, hc, hr⟩, hG, hR⟩ := HS
  have ht : s.take (2 * (k + 1)) = s.take (2 * k) ++ [ca, cb] := by
    rw [show 2 * (k + 1) = 2 * k + 1 + 1 by omega, List.take_succ_eq_append_getElem hk1, List.take_succ_eq_append_getElem (by omega), GA, GB, List.append_assoc]
    rfl
  have hl : (s.take (2 * k)).length % 2 = 0 := by rw [List.length_take, Nat.min_eq_left (by omega)]; omega
  have hgr : g < wr.heap.size := blk_lt hb
  have hb2 : ((wr.drewN nq).setCell ⟨g, 1, none⟩ (.bool bb)).heap[g]? = some (.cells #[.slice A ql.length c, .bool bb] 62 (0, 0)) := blk_set (w := wr.drewN nq) hb 1 _
  refine ⟨⟨A, c, ?_, hc, hr⟩, ⟨HB2.os.trans hG.os, HB2.tape.trans hG.tape, HB2.output.trans hG.output, Nat.le_trans hG.size (by have := HB2.size; simpa [World.setCell] using this), fun i hi hne => ?_⟩, ?_⟩
  · rw [ht, unbad_snoc ca cb _ hl, HB2.block g hgw, hb2, hbb]
    simp only [Bool.or_assoc]
  · refine (HB2.block i hi).trans ?_
    rw [Below.heap_setCell _ _ _ _ (fun e => hne (by rw [e]))]
    exact hG.block i hi hne
  · rw [ht, unhexW_snoc hexm ca cb _ hl, ints_app]
    have h8 : 16 * hexm ca + hexm cb < 256 := by
      have h1 := hexv_le ca
      have h2 := hexv_le cb
      unfold hexm
      split <;> split <;> omega
    have e : ints [UInt8.ofNat (16 * hexm ca + hexm cb)] = [x] := by
      rw [hx]
      simp only [ints, List.map_cons, List.map_nil, UInt8.toNat_ofNat']
      rw [Nat.mod_eq_of_lt (by omega)]
    rw [e]
    exact Kd.R_of_own (enc := Value.int .u8) (h1 := fun _ => rfl) HO2 (fun _ _ => trivial)

/-- How the line stands behind the first test of its bytes. -/
def Case27 (s : List UInt8) (qb b1 : Bool) : Prop :=
  (qb = false ∧ (((s.length : Int) == 0) = false) ∧ ((((s.length : Int) % 2) != 0) = b1) ∧ b1 = b1) ∨ (qb = true ∧ True ∧ True ∧ true = b1) ∨ (qb = false ∧ (((s.length : Int) == 0) = true) ∧ True ∧ true = b1)

theorem s_start {w0 w w1 : World} {g : Nat} {s : List UInt8} {ql : List (List UInt8)} {qb z b1 : Bool} {A : Option Addr} {c : Nat} (hz : z = b1) (hb : w1.heap[g]? = some (.cells #[.slice A ql.length c, .bool qb] 62 (0, 0))) (hc : ql.length ≤ c) (hr : Kd.C Kd.string w0 A (ql.map str).length (ql.map str)) (hg : w.grownBy w1 (some g)) :
    Sx w0 w (w1.setCell ⟨g, 1, none⟩ (.bool z)) g s ql b1 (.slice none 0 0) 0 := by
  refine ⟨?_, grown_trans' hg (only_setN _ _), Kd.R_nil _ _ _ _ _⟩
  have e : (b1 || unbad (s.take (2 * 0))) = z := by simp [unbad, hz]
  rw [e]
  exact ln_set z hb hc hr

set_option maxHeartbeats 6000000 in
set_option maxRecDepth 100000 in
theorem bytes_walk {w0 w : World} {g : Nat} {s : List UInt8} {ql : List (List UInt8)} {qb : Bool} (b1 : Bool) (hcase : Case27 s qb b1) (hn : Nx w0 w g s (ql, qb)) (hB : Below w0.heap.size w0 w) (hg : w0.heap.size ≤ g) (hgw : g < w.heap.size) (hsz : s.length ≤ 1000000) (hs : s ≠ [45]) :
    Calls Tryd.prog 27 #[.pointer (some ⟨g, 0, none⟩)] w fun e w' => ∃ v, e = .returned v ∧ Sx w0 w w' g s ql b1 v (s.length / 2) := by
  have HN := Aside0.mk hn
  have HBB := Aside0.mk hB
  have hs1 : (s == [45]) = false := by simpa using hs
  clear hn hB hs
  rcases hcase with ⟨rfl, hl0, hodd, hz⟩ | ⟨rfl, hl0, hodd, hz⟩ | ⟨rfl, hl0, hodd, hz⟩
  all_goals
    have HZ := Aside0.mk hz
    clear hz
    go_enter Tryd.func27, Tryd.ntmps27
    go_wp2_with fail
    refine HN.out.mono ?_
    rintro e w1 ⟨rfl, ⟨A, c, hb, hc, hr⟩, hg1⟩
    have hc1 : w1.cell? ⟨g, 1, none⟩ = some (.bool _) := blk_cell hb 1
    have hf1 : w1.frozen? ⟨g, 1, none⟩ = false := blk_frozen hb 1
    have Hb := Aside0.mk hb
    have Hg1 := Aside0.mk hg1
    clear hb hg1
    have e1 : (str s).toList = s := str_toList s
    have e2 : (str s).size = s.length := rfl
    go_wp2_with fail
    go_loopw [4, 5] (fun v i wr => ∃ k : Nat, i = .int .i64 (2 * (k : Int)) ∧ 2 * k ≤ s.length ∧ Aside0 (Sx w0 w wr g s ql b1 v k)) (fun _ i _ => s.length - (intOf i).toNat)
    case atStart => exact ⟨0, rfl, by omega, Aside0.mk (s_start (by first | rfl | exact HZ.out) Hb.out hc hr Hg1.out)⟩
    case round =>
      obtain ⟨k, rfl, hk, HS⟩ := hrel
      by_cases hlt : 2 * (k : Int) + 1 < s.length
      · have hk1 : 2 * k + 1 < s.length := by omega
        have i0 : 0 ≤ 2 * (k : Int) := by omega
        have i1 : 2 * (k : Int) < s.length := by omega
        have i2 : 0 ≤ 2 * (k : Int) + 1 := by omega
        go_wp2_with fail
        go_quiet ((go_at_call 53; exact Calls.quiet_of_same (place_any _ _)))
        obtain ⟨HL, HG, HR⟩ := HS.out
        obtain ⟨A1, c1, hb1, hc1', hr1⟩ := HL
        have hcw : wr.cell? ⟨g, 1, none⟩ = some (.bool (b1 || unbad (s.take (2 * k)))) := blk_cell hb1 1
        have hfw : wr.frozen? ⟨g, 1, none⟩ = false := blk_frozen hb1 1
        have HBD := Aside0.mk hb1
        clear hb1
        generalize hbb : (b1 || unbad (s.take (2 * k))) = bb at *
        have ga : (str s)[2 * k]'(by rw [e2]; omega) = s[2 * k]'(by omega) := rfl
        have gb : (str s)[2 * k + 1]'(by rw [e2]; omega) = s[2 * k + 1]'(by omega) := rfl
        rw [ga, gb]
        generalize hca : s[2 * k]'(by omega) = ca
        generalize hcb : s[2 * k + 1]'(by omega) = cb
        have GA := Aside0.mk hca
        have GB := Aside0.mk hcb
        have GBB := Aside0.mk hbb
        clear hca hcb hbb ga gb HG HR
        have hxa := hexv_le ca
        have hxb := hexv_le cb
        generalize hia : ix ca = ia
        generalize hib : ix cb = ib
        obtain ⟨x, hx⟩ : ∃ x : Int, x = ((16 * hexm ca + hexm cb : Nat) : Int) := ⟨_, rfl⟩
        have hxv : bits BinOp.or IntKind.i64 (wrap64 (ia * 16)) (bits BinOp.and IntKind.i64 ib 15) % 256 = x := by
          rw [← hia, ← hib, hx]
          exact byte_eq ca cb
        have HX := Aside0.mk hx
        clear hx
        have hlen : (ints (unhexW hexm (s.take (2 * k)))).length ≤ 140737488355327 := by
          have := unhexW_len hexm (s.take (2 * k))
          rw [ints_len]
          rw [List.length_take] at this
          omega
        have hwz : w.heap.size ≤ wr.heap.size := HS.out.2.1.size
        have HAB := Aside0.mk (show (hexv ca = 16 ∧ ia < 0 ∨ hexv ca ≠ 16 ∧ 0 ≤ ia) ∧ (hexv cb = 16 ∧ ib < 0 ∨ hexv cb ≠ 16 ∧ 0 ≤ ib) from ⟨by rw [← hia]; exact ix_sign ca, by rw [← hib]; exact ix_sign cb⟩)
        clear hia hib
        cases bb
        · obtain ⟨⟨qa, ra⟩ | ⟨qa, ra⟩, ⟨qb, rb⟩ | ⟨qb, rb⟩⟩ := HAB.out
          all_goals
            have QA := Aside0.mk qa
            have QB := Aside0.mk qb
            clear HAB qa qb
            go_wp2_with (at_builtin; refine print_append_num (w0 := _) w.heap.size rfl (.tmp 61) (.tmp 68) 22 5 .u8 1 rfl Tryd.underlying22 info5 (by decide) u4 (ints (unhexW hexm (s.take (2 * k)))) x rfl (by first | rfl | (go_simp; done) | (go_simp; rfl)) (sx_own HS.out hgw nq _) (Below.refl _ _) (by first | exact hwz | (go_simp; done)) (by omega) ?_; intro v1 w2 HO2 HB2 hg2 hat2)
            go_roundw
            case rel => exact ⟨k + 1, congrArg (Value.int .i64) (by omega), by omega, Aside0.mk (sx_next HS.out hgw hk1 GA.out GB.out (by rw [GBB.out]; first | (simp [QA.out, QB.out]; done) | (rw [show decide (ia < 0) = false from decide_eq_false (by omega), show decide (ib < 0) = false from decide_eq_false (by omega)]; simp [QA.out, QB.out]; done) | (simp [QA.out, QB.out]; omega)) HX.out HB2 HO2)⟩
            case measure => simp [intOf]; omega
        · clear HAB
          go_wp2_with (at_builtin; refine print_append_num (w0 := _) w.heap.size rfl (.tmp 61) (.tmp 68) 22 5 .u8 1 rfl Tryd.underlying22 info5 (by decide) u4 (ints (unhexW hexm (s.take (2 * k)))) x rfl (by first | rfl | (go_simp; done) | (go_simp; rfl)) (sx_own HS.out hgw nq _) (Below.refl _ _) (by first | exact hwz | (go_simp; done)) (by omega) ?_; intro v1 w2 HO2 HB2 hg2 hat2)
          go_roundw
          case rel => exact ⟨k + 1, congrArg (Value.int .i64) (by omega), by omega, Aside0.mk (sx_next HS.out hgw hk1 GA.out GB.out (by rw [GBB.out]; simp) HX.out HB2 HO2)⟩
          case measure => simp [intOf]; omega
      · go_wp2
        go_ret
        have hk2 : s.length / 2 = k := by omega
        exact ⟨u4, rfl, by rw [hk2]; exact HS.out⟩

theorem bytes_dash {w0 w : World} {g : Nat} {ql : List (List UInt8)} {qb : Bool} (hn : Nx w0 w g [45] (ql, qb)) :
    Calls Tryd.prog 27 #[.pointer (some ⟨g, 0, none⟩)] w fun e w' => e = .returned (.slice none 0 0) ∧ Ln w0 w' g (ql, qb) ∧ w.grownBy w' (some g) := by
  have HN := Aside0.mk hn
  clear hn
  go_enter Tryd.func27, Tryd.ntmps27
  go_wp2_with fail
  refine HN.out.mono ?_
  rintro e w1 ⟨rfl, hl, hg1⟩
  have HL := Aside0.mk hl
  have HG := Aside0.mk hg1
  clear hl hg1
  have e1 : (str [45]).toList = [45] := str_toList _
  go_wp2_with fail
  go_ret
  exact ⟨rfl, HL.out, HG.out⟩

theorem bytes_calls {w0 w : World} {g : Nat} {p : St} (h : Ln w0 w g p) (hB : Below w0.heap.size w0 w) (hg : w0.heap.size ≤ g) (hgw : g < w.heap.size) (hsz : (nextP p).1.length ≤ 1000000) :
    Calls Tryd.prog 27 #[.pointer (some ⟨g, 0, none⟩)] w fun e w' => ∃ v, e = .returned v ∧ Ln w0 w' g (bytesP p).2 ∧ w.grownBy w' (some g) ∧ Kd.R (Kd.int .u8) 5 w' w.heap.size (fun _ => True) v (ints (bytesP p).1) := by
  have hn : Nx w0 w g (nextP p).1 (nextP p).2 := next_calls h hB
  unfold bytesP
  generalize (nextP p).1 = s at *
  generalize (nextP p).2 = q at *
  obtain ⟨ql, qb⟩ := q
  by_cases hs : s = [45]
  · subst hs
    rw [if_pos rfl]
    refine (bytes_dash hn).mono ?_
    rintro e w' ⟨rfl, h1, h2⟩
    exact ⟨_, rfl, h1, h2, Kd.R_nil _ _ _ _ _⟩
  · rw [if_neg hs]
    have hlt : s.take (2 * (s.length / 2)) = s ∨ ∃ c, s = s.take (2 * (s.length / 2)) ++ [c] := by
      by_cases he : s.length % 2 = 0
      · exact .inl (List.take_of_length_le (by omega))
      · refine .inr ⟨s[2 * (s.length / 2)]'(by omega), ?_⟩
        rw [← List.take_succ_eq_append_getElem (by omega), List.take_of_length_le (by omega)]
    have hle : (s.take (2 * (s.length / 2))).length % 2 = 0 := by rw [List.length_take, Nat.min_eq_left (by omega)]; omega
    have eu : unhexW hexm (s.take (2 * (s.length / 2))) = unhexW hexm s := by
      rcases hlt with h | ⟨c, h⟩
      · rw [h]
      · conv => rhs; rw [h]
        exact (unhexW_end hexm _ c hle).symm
    have eb : unbad (s.take (2 * (s.length / 2))) = unbad s := by
      rcases hlt with h | ⟨c, h⟩
      · rw [h]
      · conv => rhs; rw [h]
        exact (unbad_end _ c hle).symm
    have hcase : Case27 s qb (qb || decide (s.length = 0) || decide (s.length % 2 ≠ 0)) := by
      cases qb
      · by_cases h0 : s.length = 0
        · exact .inr (.inr ⟨rfl, by rw [beq_iff_eq]; omega, trivial, by simp [h0]⟩)
        · refine .inl ⟨rfl, by rw [beq_eq_false_iff_ne]; omega, ?_, rfl⟩
          have : decide (s.length = 0) = false := by simpa using h0
          rw [this, Bool.false_or, Bool.false_or, Bool.eq_iff_iff, bne_iff_ne, decide_eq_true_eq]; omega
      · exact .inr (.inl ⟨rfl, trivial, trivial, rfl⟩)
    refine (bytes_walk _ hcase hn hB hg hgw hsz hs).mono ?_
    rintro e w' ⟨v, rfl, h1, h2, h3⟩
    rw [eb] at h1
    rw [eu] at h3
    exact ⟨v, rfl, h1, h2, h3⟩
end Go.Proofs.YtfjjikabinelgaaDoor
namespace Go.Proofs.YtfjjikabinelgaaDoor
open Go.RowKit Go.Maps Go.WideMaps Go.WideElems Go.Proofs.YtfjjikabinelgaaDoorW.PrintWords Sc
set_option linter.unusedVariables false
set_option linter.unusedSimpArgs false

def wsA : Array Value := ((List.range 10).map fun k => Value.string (str (word k))).toArray

theorem words_calls (w : World) : Calls Tryd.prog 33 #[] w fun e w' => e = .returned (.agg wsA) ∧ w' = w.alloc (.cells wsA 79) := by
  go_enter Tryd.func33, Tryd.ntmps33
  go_wp2
  refine bodyPost_ret (v := .agg wsA) (by simp [results, Tryd.results33, go_sem]; rfl) rfl ⟨rfl, rfl⟩

def Dk : Nat → DataW Unit
  | 0 => .map []
  | k + 1 => (Dk k).put (.string (word k)) (.lit (.int .u8 (k : Int)))

theorem isMap_Dk : ∀ k, IsMap (Dk k)
  | 0 => ⟨[], rfl⟩
  | k + 1 => (isMap_Dk k).put _ _

theorem has_Dk (s : List UInt8) : ∀ n, (∀ k, k < n → s ≠ word k) → has (Dk n) (.string s) = false
  | 0, _ => rfl
  | n + 1, h => by
    rw [Dk, has_put_other (fun e => h n (by omega) (by injection e))]
    exact has_Dk s n fun k hk => h k (by omega)
theorem at_Dk (s : List UInt8) (z : DataW Unit) : ∀ n, (∀ k, k < n → s ≠ word k) → (Dk n).atKey (.string s) z = z
  | 0, _ => rfl
  | n + 1, h => by
    rw [Dk, atKey_put_other (fun e => h n (by omega) (by injection e))]
    exact at_Dk s z n fun k hk => h k (by omega)

theorem kindOf_none {s : List UInt8} (h : kindOf s = none) (k : Nat) (hk : k < 10) : s ≠ word k := by
  rintro rfl
  rw [kindOf_word (by omega)] at h
  cases h

theorem look_Dk (s : List UInt8) : has (Dk 10) (.string s) = (kindOf s).isSome ∧ (Dk 10).atKey (.string s) (.lit (.int .u8 0)) = .lit (.int .u8 (((kindOf s).getD 0 : Nat) : Int)) := by
  cases hk : kindOf s with
  | none =>
    have hn := kindOf_none hk
    exact ⟨has_Dk s 10 hn, at_Dk s _ 10 hn⟩
  | some k =>
    obtain ⟨rfl, h9⟩ := word_kindOf hk
    have hcase : k = 0 ∨ k = 1 ∨ k = 2 ∨ k = 3 ∨ k = 4 ∨ k = 5 ∨ k = 6 ∨ k = 7 ∨ k = 8 ∨ k = 9 := by omega
    rcases hcase with rfl | rfl | rfl | rfl | rfl | rfl | rfl | rfl | rfl | rfl <;> exact ⟨by kernel_rfl, by kernel_rfl⟩

theorem law9 : Keyed Tryd.prog 9 := string_keyed Tryd.underlying9
theorem zero5 (w : World) : (zeroValue 5).run Tryd.prog w = .ok (.int .u8 0) w := by kernel_rfl

theorem idx_ws0 (W : World) : (Instr.index 79 (.agg wsA) (.int .i64 ((0 : Nat) : Int))).run Tryd.prog W = .ok (.string (str (word 0))) W := by kernel_rfl
theorem idx_ws1 (W : World) : (Instr.index 79 (.agg wsA) (.int .i64 ((1 : Nat) : Int))).run Tryd.prog W = .ok (.string (str (word 1))) W := by kernel_rfl
theorem idx_ws2 (W : World) : (Instr.index 79 (.agg wsA) (.int .i64 ((2 : Nat) : Int))).run Tryd.prog W = .ok (.string (str (word 2))) W := by kernel_rfl
theorem idx_ws3 (W : World) : (Instr.index 79 (.agg wsA) (.int .i64 ((3 : Nat) : Int))).run Tryd.prog W = .ok (.string (str (word 3))) W := by kernel_rfl
theorem idx_ws4 (W : World) : (Instr.index 79 (.agg wsA) (.int .i64 ((4 : Nat) : Int))).run Tryd.prog W = .ok (.string (str (word 4))) W := by kernel_rfl
theorem idx_ws5 (W : World) : (Instr.index 79 (.agg wsA) (.int .i64 ((5 : Nat) : Int))).run Tryd.prog W = .ok (.string (str (word 5))) W := by kernel_rfl
theorem idx_ws6 (W : World) : (Instr.index 79 (.agg wsA) (.int .i64 ((6 : Nat) : Int))).run Tryd.prog W = .ok (.string (str (word 6))) W := by kernel_rfl
theorem idx_ws7 (W : World) : (Instr.index 79 (.agg wsA) (.int .i64 ((7 : Nat) : Int))).run Tryd.prog W = .ok (.string (str (word 7))) W := by kernel_rfl
theorem idx_ws8 (W : World) : (Instr.index 79 (.agg wsA) (.int .i64 ((8 : Nat) : Int))).run Tryd.prog W = .ok (.string (str (word 8))) W := by kernel_rfl
theorem idx_ws9 (W : World) : (Instr.index 79 (.agg wsA) (.int .i64 ((9 : Nat) : Int))).run Tryd.prog W = .ok (.string (str (word 9))) W := by kernel_rfl
theorem idx_ws (k : Nat) (hk : k < 10) : ∀ W : World, (Instr.index 79 (.agg wsA) (.int .i64 k)).run Tryd.prog W = .ok (.string (str (word k))) W := by
  intro W
  have hcase : k = 0 ∨ k = 1 ∨ k = 2 ∨ k = 3 ∨ k = 4 ∨ k = 5 ∨ k = 6 ∨ k = 7 ∨ k = 8 ∨ k = 9 := by omega
  rcases hcase with rfl | rfl | rfl | rfl | rfl | rfl | rfl | rfl | rfl | rfl
  · exact idx_ws0 W
  · exact idx_ws1 W
  · exact idx_ws2 W
  · exact idx_ws3 W
  · exact idx_ws4 W
  · exact idx_ws5 W
  · exact idx_ws6 W
  · exact idx_ws7 W
  · exact idx_ws8 W
  · exact idx_ws9 W

theorem word_len (k : Nat) (hk : k < 10) : (word k).length ≤ 8 := by
  have hcase : k = 0 ∨ k = 1 ∨ k = 2 ∨ k = 3 ∨ k = 4 ∨ k = 5 ∨ k = 6 ∨ k = 7 ∨ k = 8 ∨ k = 9 := by omega
  rcases hcase with rfl | rfl | rfl | rfl | rfl | rfl | rfl | rfl | rfl | rfl <;> decide

set_option maxHeartbeats 800000 in
set_option maxRecDepth 100000 in
theorem kinds_calls (w : World) : Calls Tryd.prog 22 #[] w fun e w' => e = .returned (.map (some w.heap.size)) ∧ w'.ownsMap Tryd.prog 9 (plainElem Tryd.prog 5) w.heap.size 10 (Dk 10) ∧ Below w.heap.size w w' := by
  have hmm := @run_makeMap Tryd.prog
  go_enter Tryd.func22, Tryd.ntmps22
  go_wp2_with (go_at_call 33; refine (words_calls _).mono ?_; rintro e w' ⟨rfl, rfl⟩)
  go_loopw [2, 3, 6] (fun _ _ i wr => ∃ k : Nat, k ≤ 10 ∧ i = .int .i64 k ∧ wr.ownsMap Tryd.prog 9 (plainElem Tryd.prog 5) w.heap.size k (Dk k) ∧ Below w.heap.size w wr)
    (fun _ _ i _ => 10 - (intOf i).toNat)
  case atStart => exact ⟨0, by omega, rfl, (World.ownsMap_made _ _ _ _).alloc _, ((Below.refl _ _).alloc (Nat.le_refl _) _).alloc (by simp) _⟩
  case round =>
    obtain ⟨k, hk, rfl, hown, hnx⟩ := hrel
    by_cases hlt : k < 10
    · have hi := idx_ws k hlt
      have hlt2 : (k : Int) < 10 := by omega
      have hkey : keyOf Tryd.prog 9 (.string (str (word k))) = some (.string (word k)) := keyOf_string_mk Tryd.underlying9 (by have := word_len k hlt; rw [str_size]; unfold maxLen; omega)
      have hwf : (Lit.int .u8 (k : Int)).wf = true := by
        have hcase : k = 0 ∨ k = 1 ∨ k = 2 ∨ k = 3 ∨ k = 4 ∨ k = 5 ∨ k = 6 ∨ k = 7 ∨ k = 8 ∨ k = 9 := by omega
        rcases hcase with rfl | rfl | rfl | rfl | rfl | rfl | rfl | rfl | rfl | rfl <;> decide
      have HWF := Aside0.mk hwf
      have HKEY := Aside0.mk hkey
      clear hwf hkey
      have hmod : (k : Int) % 256 = k := by omega
      go_wp2_with (at_mapUpdate; refine wpList_mapUpdate_own _ rfl _ _ _ 64 rfl 9 5 law9 Tryd.underlying64 _ w.heap.size k _ rfl hown (by unfold maxLen; omega) _ _ _ rfl rfl HKEY.out _ [] (plainElem_int Tryd.underlying5 HWF.out) ?_; intro w1 hown1 hgrow1)
      go_roundw
      case rel => exact ⟨k + 1, by omega, by go_num, hown1, hnx.grown hgrow1 hnx.size (fun j hj => by cases hj; exact Nat.le_refl _)⟩
      case measure => simp [intOf]; omega
    · obtain rfl : k = 10 := by omega
      go_wp2
      go_ret
      exact ⟨rfl, hown, hnx⟩
end Go.Proofs.YtfjjikabinelgaaDoor
namespace Go.Proofs.YtfjjikabinelgaaDoor
open Go.RowKit Go.Proofs.YtfjjikabinelgaaDoorW.PrintWords Sc
set_option linter.unusedVariables false
set_option linter.unusedSimpArgs false

theorem splitK_spl (c : UInt8) : ∀ (n : Nat) (l : List UInt8), l.length = n → Lib.splitK [c] 0 (Lib.count l [c]) l = spl c l := by
  intro n
  induction n using Nat.strongRecOn with
  | _ n ih =>
    intro l hl
    have hge := Lib.index_ge l [c]
    by_cases hm : Lib.index l [c] = -1
    · rw [Lib.count_miss hm]
      have hn : c ∉ l := fun h => by
        obtain ⟨k, hk, he⟩ := List.getElem_of_mem h
        rw [Lib.index_one] at hm
        exact Lib.indexByte_none hm k (by rw [List.getElem?_eq_getElem hk, he])
      rw [spl_free c hn]
      rfl
    · obtain ⟨i, hi⟩ : ∃ i : Nat, Lib.index l [c] = i := ⟨(Lib.index l [c]).toNat, by omega⟩
      rw [Lib.count_hit (by simp) hi, Nat.add_comm 1, Lib.splitK]
      have hb := hi
      rw [Lib.index_one] at hb
      obtain ⟨h1, h2⟩ := Lib.indexByte_some hb
      obtain ⟨hlt, he⟩ := List.getElem?_eq_some_iff.1 h1
      have hne : ¬ (Lib.index l [c] == -1) = true := fun e => by have := beq_iff_eq.1 e; omega
      have hit : (Lib.index l [c]).toNat = i := by omega
      rw [if_neg hne, hit, Nat.add_zero]
      have hfree : c ∉ l.take i := fun h => by
        obtain ⟨k, hk, hke⟩ := List.getElem_of_mem h
        rw [List.length_take] at hk
        rw [List.getElem_take] at hke
        exact h2 k (by omega) ((List.getElem?_eq_getElem (show k < l.length by omega)).trans (congrArg some hke))
      have hd : l = l.take i ++ c :: l.drop (i + 1) := by
        conv => lhs; rw [← List.take_append_drop i l]
        rw [List.drop_eq_getElem_cons hlt, he]
      have e1 : spl c l = l.take i :: spl c (l.drop (i + 1)) := by
        conv => lhs; rw [hd]
        exact spl_app c _ hfree
      rw [e1]
      congr 1
      exact ih _ (by rw [List.length_drop]; omega) (l.drop (i + 1)) rfl

theorem splitB_spl (c : UInt8) (l : List UInt8) : Lib.splitB (str [c]) 0 (Lib.countB (str l) (str [c])) (str l) = (spl c l).map str := by
  have h := Lib.splitB_data (str [c]) 0 (Lib.countB (str l) (str [c])) (str l)
  have e : Lib.splitK (str [c]).data.toList 0 (Lib.countB (str l) (str [c])) (str l).data.toList = spl c l := splitK_spl c _ l rfl
  rw [e] at h
  rw [← h, List.map_map]
  exact (List.map_id _).symm

theorem splitB_all_len (c : UInt8) (l : List UInt8) : Lib.countB (str l) (str [c]) + 1 = (spl c l).length := by
  have h := Lib.splitB_all (str [c]) (Nat.le_refl 1) 0 _ (str l) rfl
  rw [splitB_spl, List.length_map] at h
  exact h.symm

def strs (xs : List (List UInt8)) : List Value := xs.map fun x => .string (str x)

theorem split_calls (c : UInt8) (l : List UInt8) (hl : l.length < 4294967281) (w : World) (he : Env w) :
    Calls Tryd.prog 21 #[.string (str l), .string (str [c])] w fun e w' => e = .returned (.slice (some ⟨w.heap.size, 0, none⟩) (spl c l).length (spl c l).length) ∧ w' = w.alloc (.cells (strs (spl c l)).toArray 9) := by
  obtain ⟨m, hm⟩ := he.maxLen
  have h := Any.strings_Split (ρ := Tryd.laysM146_ren) { Tryd.laysM146 with } Tryd.laysM146.i9 (str l) (str [c]) m w hl hm (Nat.le_refl 1)
  refine h.mono ?_
  rintro e w' ⟨rfl, rfl⟩
  rw [splitB_all_len, splitB_spl]
  have ev : ((spl c l).map str).map Value.string = strs (spl c l) := by simp [strs]
  rw [ev]
  exact ⟨rfl, rfl⟩

theorem strs_len (xs : List (List UInt8)) : (strs xs).length = xs.length := by simp [strs]
/-- The new block's strings are read. -/
theorem strs_reads (w : World) (xs : List (List UInt8)) (hl : xs.length ≤ 9223372036854775807) : Kd.C Kd.string (w.alloc (.cells (strs xs).toArray 9)) (some ⟨w.heap.size, 0, none⟩) (xs.map str).length (xs.map str) := by
  refine Kd.C_of_reads (d := str []) ⟨rfl, by rw [List.length_map]; exact hl, fun hn => ⟨_, rfl, fun j hj => ?_⟩⟩
  have hb : (w.alloc (.cells (strs xs).toArray 9)).heap[w.heap.size]? = some (.cells (strs xs).toArray 9 (0, 0)) := heap_alloc_new w _
  rw [List.length_map] at hj
  rw [add_plain, blk_cell hb j]
  simp [strs, List.getElem?_map, List.getElem?_eq_getElem hj, List.getD_eq_getElem?_getD]
end Go.Proofs.YtfjjikabinelgaaDoor
namespace Go.Proofs.YtfjjikabinelgaaDoor
open Go.RowKit Go.Proofs.YtfjjikabinelgaaDoorW.PrintWords Sc
set_option linter.unusedVariables false
set_option linter.unusedSimpArgs false

theorem okByte_eq (c : UInt8) : okByte c = (decide (33 ≤ (c.toNat : Int)) && decide ((c.toNat : Int) ≤ 126) && !((c.toNat : Int) == 47)) := by
  rw [Bool.eq_iff_iff]
  simp only [okByte, Bool.and_eq_true, decide_eq_true_eq, Bool.not_eq_true', beq_eq_false_iff_ne, ne_eq]
  omega

/-- A text that is no name by its length or as it stands. -/
theorem name_no (s : ByteArray) (w : World) (h : s.toList = [] ∨ 32 < s.size ∨ s.toList = [46] ∨ s.toList = [46, 46]) :
    Calls Tryd.prog 52 #[.string s] w fun e w' => e = .returned (.bool false) ∧ w' = w := by
  by_cases h1 : s.toList = []
  · have b1 : (s.toList == []) = true := by simpa using h1
    go_enter Tryd.func52, Tryd.ntmps52
    go_wp2
    go_ret
    exact ⟨rfl, rfl⟩
  have b1 : s.toList.isEmpty = false := by simpa using h1
  have b1' : (s.toList == []) = false := by simpa using h1
  by_cases h2 : 32 < s.size
  · clear h h1
    go_enter Tryd.func52, Tryd.ntmps52
    go_wp2
    go_ret
    exact ⟨rfl, rfl⟩
  have b2 : ¬ (32 : Int) < s.size := by omega
  by_cases h3 : s.toList = [46]
  · have b3 : (s.toList == [46]) = true := by simpa using h3
    clear h h1 h2 h3
    go_enter Tryd.func52, Tryd.ntmps52
    go_wp2
    go_ret
    exact ⟨rfl, rfl⟩
  have b3 : (s.toList == [46]) = false := by simpa using h3
  by_cases h4 : s.toList = [46, 46]
  · have b4 : (s.toList == [46, 46]) = true := by simpa using h4
    clear h h1 h2 h3 h4
    go_enter Tryd.func52, Tryd.ntmps52
    go_wp2
    go_ret
    exact ⟨rfl, rfl⟩
  · exfalso
    rcases h with h | h | h | h
    · exact h1 h
    · exact h2 h
    · exact h3 h
    · exact h4 h

theorem all_take_succ (l : List UInt8) (k : Nat) (h : k < l.length) : (l.take (k + 1)).all okByte = ((l.take k).all okByte && okByte l[k]) := by
  rw [List.take_succ_eq_append_getElem h, List.all_append]
  simp

def nmAll (s : ByteArray) : Bool := s.data.toList.all okByte

set_option maxHeartbeats 800000 in
theorem name_yes (s : ByteArray) (w : World) (h1 : s.toList ≠ []) (h2 : ¬ 32 < s.size) (h3 : s.toList ≠ [46]) (h4 : s.toList ≠ [46, 46]) :
    Calls Tryd.prog 52 #[.string s] w fun e w' => e = .returned (.bool (nmAll s)) ∧ w' = w := by
  have b1 : s.toList.isEmpty = false := by simpa using h1
  have b1' : (s.toList == []) = false := by simpa using h1
  have b2 : ¬ (32 : Int) < s.size := by omega
  have b3 : (s.toList == [46]) = false := by simpa using h3
  have b4 : (s.toList == [46, 46]) = false := by simpa using h4
  have hl : s.data.toList.length = s.size := data_length s
  have HL := Aside0.mk hl
  clear h1 h3 h4 hl
  go_enter Tryd.func52, Tryd.ntmps52
  go_wp2
  go_loop [3, 4, 22] (fun _ _ i => ∃ k : Nat, i = .int .i64 k ∧ k ≤ s.size ∧ Aside0 ((s.data.toList.take k).all okByte = true)) (fun _ _ i => s.size - (intOf i).toNat)
  case atStart => exact ⟨0, rfl, by omega, Aside0.mk rfl⟩
  case round =>
    obtain ⟨k, rfl, hk, HA⟩ := hrel
    by_cases hlt : k < s.size
    · have hlt' : (k : Int) < s.size := by omega
      have hkl : k < s.data.toList.length := by rw [HL.out]; exact hlt
      have hsucc := all_take_succ s.data.toList k hkl
      have hget : s.data.toList[k] = s[k] := rfl
      rw [HA.out, Bool.true_and, hget] at hsucc
      have hdrop : nmAll s = ((s.data.toList.take (k + 1)).all okByte && (s.data.toList.drop (k + 1)).all okByte) := by
        unfold nmAll
        conv => lhs; rw [← List.take_append_drop (k + 1) s.data.toList]
        exact List.all_append
      rw [hsucc] at hdrop
      have HS := Aside0.mk hsucc
      have HD := Aside0.mk hdrop
      clear hsucc hdrop hget
      have hb := okByte_eq s[k]
      generalize hc : s[k] = c at *
      have HC := Aside0.mk hc
      have HB := Aside0.mk hb
      have hc1 := c.toNat_lt
      clear hb
      by_cases q1 : c.toNat = 47
      · have Q1 := Aside0.mk q1
        have p1 : ((c.toNat : Int) == 47) = true := by rw [beq_iff_eq]; omega
        clear q1
        go_wp2
        go_ret
        refine ⟨?_, rfl⟩
        rw [HD.out, HB.out, p1]; simp
      · have p1 : ((c.toNat : Int) == 47) = false := by rw [beq_eq_false_iff_ne]; omega
        by_cases q2 : (c.toNat : Int) ≤ 32
        · go_wp2
          go_ret
          refine ⟨?_, rfl⟩
          rw [HD.out, HB.out, show decide (33 ≤ (c.toNat : Int)) = false from decide_eq_false (by omega)]; rfl
        · by_cases q3 : (126 : Int) < c.toNat
          · go_wp2
            go_ret
            refine ⟨?_, rfl⟩
            rw [HD.out, HB.out, show decide ((c.toNat : Int) ≤ 126) = false from decide_eq_false (by omega)]; simp
          · go_wp2
            go_round
            case rel =>
              refine ⟨k + 1, by go_num, by omega, Aside0.mk ?_⟩
              rw [HS.out, HB.out, p1, show decide (33 ≤ (c.toNat : Int)) = true from decide_eq_true (by omega), show decide ((c.toNat : Int) ≤ 126) = true from decide_eq_true (by omega)]; rfl
            case measure => simp [intOf]; omega
    · have hks : k = s.size := by omega
      have he : s.data.toList.take k = s.data.toList := List.take_of_length_le (by rw [HL.out]; omega)
      have HE := Aside0.mk he
      clear he
      go_wp2
      go_ret
      refine ⟨?_, rfl⟩
      have := HA.out
      rw [HE.out] at this
      have e : nmAll s = true := this
      rw [e]
      rfl

theorem name_calls (s : ByteArray) (w : World) : Calls Tryd.prog 52 #[.string s] w fun e w' => e = .returned (.bool (nameP s.data.toList)) ∧ w' = w := by
  have et : s.toList = s.data.toList := ByteArray.toList_eq s
  have el : s.data.toList.length = s.size := data_length s
  by_cases h : s.toList = [] ∨ 32 < s.size ∨ s.toList = [46] ∨ s.toList = [46, 46]
  · have e : nameP s.data.toList = false := by
      unfold nameP
      rw [el]
      rw [et] at h
      rcases h with h | h | h | h
      · have : s.size = 0 := by rw [← el, h]; rfl
        simp [this]
      · have : ¬ s.size ≤ 32 := by omega
        simp [this]
      · simp [h]
      · simp [h]
    rw [e]
    exact name_no s w h
  · simp only [not_or] at h
    obtain ⟨h1, h2, h3, h4⟩ := h
    have e : nameP s.data.toList = s.data.toList.all okByte := by
      unfold nameP
      rw [el]
      have h0 : 1 ≤ s.size := by
        rcases Nat.eq_zero_or_pos s.size with h0 | h0
        · exact absurd (by rw [et]; exact List.eq_nil_of_length_eq_zero (by rw [el]; exact h0)) h1
        · exact h0
      rw [et] at h3 h4
      simp [h0, h3, h4]
      intro _
      omega
    rw [e]
    exact name_yes s w h1 h2 h3 h4

theorem notName_calls (s : ByteArray) (w : World) : Calls Tryd.prog 51 #[.string s] w fun e w' => e = .returned (.bool (!nameP s.data.toList)) ∧ w' = w := by
  go_enter Tryd.func51, Tryd.ntmps51
  go_wp2_with (go_at_call 52; refine (name_calls _ _).mono ?_; rintro e w' ⟨rfl, rfl⟩)
  go_ret
  exact ⟨rfl, rfl⟩

theorem psplit_calls (l : List UInt8) (hl : l.length < 4294967281) (w : World) (he : Env w) :
    Calls Tryd.prog 49 #[.string (str l)] w fun e w' => ∃ A, e = .returned (.slice A (names l).length (names l).length) ∧ Below w.heap.size w w' ∧ (∀ ad, A = some ad → ad = ⟨w.heap.size, 0, none⟩) ∧ Kd.C Kd.string w' A ((names l).map str).length ((names l).map str) ∧ (l ≠ [] → A = some ⟨w.heap.size, 0, none⟩) := by
  have et : (str l).toList = l := str_toList l
  by_cases h : l = []
  · subst h
    have hb : ((str []).toList == []) = true := by rw [et]; rfl
    clear et
    go_enter Tryd.func49, Tryd.ntmps49
    go_wp2_with fail
    go_ret
    exact ⟨none, rfl, Below.refl _ _, (fun ad e => by cases e), Kd.C_nil _ _, fun e => absurd rfl e⟩
  · have hb : ((str l).toList == []) = false := by rw [et]; simpa using h
    have hb2 : (str l).toList.isEmpty = false := by rw [et]; simpa using h
    have hn : names l = spl 47 l := if_neg h
    rw [hn]
    have H := Aside0.mk (split_calls 47 l hl w he)
    have hlen : (spl 47 l).length ≤ 4294967296 := by
      have h1 := spl_len 47 l
      have h2 : l.count 47 ≤ l.length := List.count_le_length
      omega
    have HH := Aside0.mk h
    clear et hn h
    go_enter Tryd.func49, Tryd.ntmps49
    go_wp2_with (go_at_call 21; refine H.out.mono ?_; rintro e w' ⟨rfl, rfl⟩)
    go_ret
    exact ⟨_, rfl, (Below.refl _ _).alloc (Nat.le_refl _) _, fun ad e => by injection e with e; exact e.symm, strs_reads _ _ (by omega), fun _ => rfl⟩

theorem any_not (l : List (List UInt8)) : (l.map str).any (fun s => !nameP s.data.toList) = !(l.all nameP) := by
  induction l with
  | nil => rfl
  | cons x r ih => simp only [List.map_cons, List.any_cons, List.all_cons, ih, str_list, Bool.not_and]

theorem pred_at (w : World) : PredAt Tryd.prog 51 #[] Value.string (fun s => !nameP s.data.toList) w := fun W x _ =>
  (notName_calls x W).mono fun e w' ⟨he, hw⟩ => ⟨he, 0, hw⟩
end Go.Proofs.YtfjjikabinelgaaDoor
namespace Go.Proofs.YtfjjikabinelgaaDoor
open Go.Shelf Go.RowKit Go.Proofs.YtfjjikabinelgaaDoorW.PrintWords Sc
set_option linter.unusedVariables false
set_option linter.unusedSimpArgs false

theorem enters51 : ∀ args w, (callFunc 51 args).run Tryd.prog w = .ok (.enter 51 args) w := enters_of Tryd.func51 (by kernel_rfl) rfl

/-- slices.ContainsFunc over what Split hands out: is there a part that is no name? -/
theorem contains_calls {w W : World} {A : Option Addr} {b : Nat} {xs : List (List UInt8)} (hx : xs ≠ []) (hA : A = some ⟨b, 0, none⟩) (hr : Kd.C Kd.string W A (xs.map str).length (xs.map str)) :
    Calls Tryd.prog 50 #[.slice A xs.length xs.length, .func (.func 51) #[] #[]] W fun e w' => e = .returned (.bool (!(xs.all nameP))) ∧ ∃ q, w' = W.drewN q := by
  subst hA
  have hR := Kd.reads_of_C (d := str []) hr
  have hl : (xs.map str).length = xs.length := List.length_map _
  have h := Tryd.slices_ContainsFunc Value.string (fun s => !nameP s.data.toList) 51 #[] enters51 b 0 (xs.map str).length xs.length (xs.map str) W (pred_at W) (Nat.le_refl _) (by have := hr.2.1; exact this)
    (fun j hj => by
      obtain ⟨ad, e, hc⟩ := hR.2.2 (by omega)
      injection e with e
      subst e
      have := hc j hj
      rw [add_plain] at this
      rw [Nat.zero_add, this, List.getD_eq_getElem?_getD, List.getElem?_eq_getElem hj, getElem!_pos _ j hj]
      rfl)
  rw [List.take_length, any_not, hl] at h
  exact h

set_option maxHeartbeats 800000 in
theorem check_calls (l : List UInt8) (hl : l.length < 4294967281) (w : World) (he : Env w) :
    Calls Tryd.prog 26 #[.string (str l)] w fun e w' => e = .returned (.int .i64 (checkN l)) ∧ Below w.heap.size w w' := by
  have es : (str l).size = l.length := rfl
  unfold checkN
  by_cases h1 : 128 < l.length
  · rw [if_pos h1]
    have h1' : (128 : Int) < l.length := by omega
    go_enter Tryd.func26, Tryd.ntmps26
    go_wp2_with fail
    go_ret
    exact ⟨rfl, Below.refl _ _⟩
  rw [if_neg h1]
  have h1' : ¬ (128 : Int) < l.length := by omega
  have HP := Aside0.mk (psplit_calls l hl w he)
  have hnl : (names l).length ≤ 4294967296 := by
    unfold names
    split
    · simp
    · have h1 := spl_len 47 l
      have h2 : l.count 47 ≤ l.length := List.count_le_length
      omega
  by_cases h2 : names l = []
  · rw [if_pos h2]
    rw [h2] at HP
    clear h2
    go_enter Tryd.func26, Tryd.ntmps26
    go_wp2_with fail
    refine HP.out.mono ?_
    rintro e w1 ⟨A, rfl, hb, _, _, _⟩
    go_wp2_with fail
    go_ret
    exact ⟨rfl, hb⟩
  rw [if_neg h2]
  have hle : l ≠ [] := fun e => h2 (if_pos e)
  have hn0 : (names l).length ≠ 0 := fun e => h2 (List.eq_nil_of_length_eq_zero e)
  have hz : (((names l).length : Int) == 0) = false := by rw [beq_eq_false_iff_ne]; omega
  generalize names l = ns at *
  have H2 := Aside0.mk h2
  have HLE := Aside0.mk hle
  clear h2 hle
  by_cases h3 : ns.all nameP = false
  · rw [if_pos h3]
    have H3 := Aside0.mk h3
    clear h3
    go_enter Tryd.func26, Tryd.ntmps26
    go_wp2_with fail
    refine HP.out.mono ?_
    rintro e w1 ⟨A, rfl, hb, _, hC, hA⟩
    have HA := Aside0.mk (hA HLE.out)
    clear hA
    go_wp2_with fail
    have hc := contains_calls (w := w1) H2.out HA.out hC
    rw [H3.out] at hc
    refine hc.mono ?_
    rintro e w2 ⟨rfl, q, rfl⟩
    clear hc
    go_wp2_with fail
    go_ret
    exact ⟨rfl, pw_below_drewN hb _⟩
  rw [if_neg h3]
  have h3' : ns.all nameP = true := by simpa using h3
  have H3 := Aside0.mk h3'
  clear h3 h3'
  by_cases h4 : 8 < ns.length
  · rw [if_pos h4]
    have h4' : (8 : Int) < ns.length := by omega
    go_enter Tryd.func26, Tryd.ntmps26
    go_wp2_with fail
    refine HP.out.mono ?_
    rintro e w1 ⟨A, rfl, hb, _, hC, hA⟩
    have HA := Aside0.mk (hA HLE.out)
    clear hA
    go_wp2_with fail
    have hc := contains_calls (w := w1) H2.out HA.out hC
    rw [H3.out] at hc
    refine hc.mono ?_
    rintro e w2 ⟨rfl, q, rfl⟩
    clear hc
    go_wp2_with fail
    go_ret
    exact ⟨rfl, pw_below_drewN hb _⟩
  · rw [if_neg h4]
    have h4' : ¬ (8 : Int) < ns.length := by omega
    go_enter Tryd.func26, Tryd.ntmps26
    go_wp2_with fail
    refine HP.out.mono ?_
    rintro e w1 ⟨A, rfl, hb, _, hC, hA⟩
    have HA := Aside0.mk (hA HLE.out)
    clear hA
    go_wp2_with fail
    have hc := contains_calls (w := w1) H2.out HA.out hC
    rw [H3.out] at hc
    refine hc.mono ?_
    rintro e w2 ⟨rfl, q, rfl⟩
    clear hc
    go_wp2_with fail
    go_ret
    exact ⟨rfl, pw_below_drewN hb _⟩
end Go.Proofs.YtfjjikabinelgaaDoor
