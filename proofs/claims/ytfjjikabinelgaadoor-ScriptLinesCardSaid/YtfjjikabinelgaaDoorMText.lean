/- Walks of the script's Text and Lines, and of awake. -/
import Derived.Test.YtfjjikabinelgaaDoorMBase
import Derived.Test.YtfjjikabinelgaaDoorMPlain
import Derived.Test.YtfjjikabinelgaaDoorMLib
import Derived.Test.YtfjjikabinelgaaDoorShelf
import Derived.Shelf.Strings.Builder1
import Derived.Deep.DeepCutAuto
import Derived.Test.YtfjjikabinelgaaDoorMParse
import Derived.Deep.RegionHeld3
import Derived.Lib.AppendIntMem
import Derived.Lib.ItoaLen
import Derived.IntWalk
import Derived.Test.YtfjjikabinelgaaDoorMPart
namespace Go.Proofs.YtfjjikabinelgaaDoor
open Go.RowKit Go.Maps Go.Proofs Go.Proofs.YtfjjikabinelgaaDoorW.PrintWords Go.Proofs.YtfjjikabinelgaaDoorW.PrintLast Go.Proofs.YtfjjikabinelgaaDoorW.PrintMore Sc PScriptLines
set_option linter.unusedVariables false
set_option linter.unusedSimpArgs false

def Tryd.lays167_ren : Go.Shelf.Ren := ⟨fun | 156 => 38 | 167 => 57 | 165 => 59 | 166 => 60 | 169 => 58 | 240 => 75 | 241 => 76 | 276 => 93 | 277 => 94 | n => n, fun | 31 => 59 | 9 => 9 | 3 => 3 | 4 => 4 | 0 => 0 | 20 => 20 | 72 => 104 | 76 => 107 | 70 => 102 | 37 => 22 | 75 => 95 | 127 => 119 | 164 => 133 | 5 => 5 | 80 => 66 | n => n, fun | n => n⟩
theorem Tryd.lays167 : Go.Proofs.Lays.n167 Tryd.prog Tryd.lays167_ren := {
  mixed := by kernel_rfl
  f167 := Tryd.func57.trans (congrArg some (by kernel_rfl))
  f240 := Tryd.func75.trans (congrArg some (by kernel_rfl))
  f276 := Tryd.func93.trans (congrArg some (by kernel_rfl))
  t0 := Tryd.underlying0
  a0 := Tryd.isAgg0
  z0 := Tryd.sizeOf0
  v0 := Tryd.zeroValue0
  t4 := Tryd.underlying4
  a4 := Tryd.isAgg4
  z4 := Tryd.sizeOf4
  v4 := Tryd.zeroValue4
  t5 := Tryd.underlying5
  a5 := Tryd.isAgg5
  z5 := Tryd.sizeOf5
  v5 := Tryd.zeroValue5
  t9 := Tryd.underlying9
  a9 := Tryd.isAgg9
  z9 := Tryd.sizeOf9
  v9 := Tryd.zeroValue9
  t20 := Tryd.underlying20
  a20 := Tryd.isAgg20
  z20 := Tryd.sizeOf20
  v20 := Tryd.zeroValue20
  t37 := Tryd.underlying22
  a37 := Tryd.isAgg22
  z37 := Tryd.sizeOf22
  v37 := Tryd.zeroValue22
  t70 := Tryd.underlying102
  a70 := Tryd.isAgg102
  z70 := Tryd.sizeOf102
  v70 := Tryd.zeroValue102
  t72 := Tryd.underlying104
  a72 := Tryd.isAgg104
  z72 := Tryd.sizeOf104
  v72 := Tryd.zeroValue104
  t75 := Tryd.underlying95
  a75 := Tryd.isAgg95
  z75 := Tryd.sizeOf95
  v75 := Tryd.zeroValue95
  t164 := Tryd.underlying133
  a164 := Tryd.isAgg133
  z164 := Tryd.sizeOf133
  v164 := Tryd.zeroValue133 }
theorem Tryd.Builder_Extra_167 : Builder.Extra Tryd.prog Tryd.lays167_ren := {
  sizeBuilder := by kernel_rfl
  liesBuilder := by kernel_rfl
  t5 := Tryd.underlying5
  a5 := Tryd.isAgg5
  z5 := Tryd.sizeOf5
  v5 := Tryd.zeroValue5
  infoByte := by kernel_rfl
  cellsByte := by kernel_rfl
  sizeByte := by kernel_rfl
  neB5 := by decide }

theorem wbyte_calls (B b : Nat) (bs : List Value) (c : Int) (w : World) (h : Lib.IsBuilder 104 5 B b bs w) (hlen : bs.length + 1 ≤ 140737488355328) (hBw : B ≤ w.heap.size) :
    Calls Tryd.prog 57 #[.pointer (some ⟨b, 0, none⟩), .int .u8 c] w fun e w' => e = .returned .nilIface ∧ (Lib.BuilderAt 104 5 B b (.pointer (some ⟨b, 0, none⟩)) (bs ++ [.int .u8 c]) w' ∧ Below B w w') := Any.Builder_WriteByte Tryd.lays167 Tryd.Builder_Extra_167 B b bs c w h hlen hBw

theorem By.cells {w : World} {A : Option Addr} {l : List UInt8} {c n : Nat} (h : By w (.slice A n c) l) (hl : l ≠ []) : n = l.length ∧ ∃ ad, A = some ad ∧ ∀ k (hk : k < l.length), w.cell? (ad.add k) = some (.int .u8 (l[k].toNat)) := by
  obtain ⟨A', c', e, hc, hr⟩ := h
  injection e with e1 e2 e3
  subst e1 e2
  refine ⟨rfl, ?_⟩
  have hpos : 0 < l.length := List.length_pos_iff.2 hl
  obtain ⟨ad, cs, e, _, _, _⟩ := Kd.C_get (n := l.length) hr (0 : Int) 0 (by omega) (by omega)
  refine ⟨ad, e, fun k hk => ?_⟩
  obtain ⟨ad', cs', e', _, hK, hc'⟩ := Kd.C_get (n := l.length) hr (0 : Int) k (by omega) (by omega)
  rw [e] at e'
  injection e' with e'
  subst e'
  obtain rfl : cs' = [.int .u8 ((ints l).getD (k : Int).toNat 0)] := hK
  have h0 := hc' 0 _ rfl
  rw [show (k : Int).toNat * (Kd.int .u8).sz + 0 = k from by show (k : Int).toNat * 1 + 0 = k; omega] at h0
  rw [h0]
  have : (k : Int).toNat = k := by omega
  rw [this]
  simp [ints, List.getD_eq_getElem?_getD, List.getElem?_eq_getElem hk]

theorem and15_all : ∀ n : Fin 256, bits BinOp.and IntKind.u8 ((n.val : Nat) : Int) 15 = ((n.val % 16 : Nat) : Int) := by decide +kernel
theorem and15 (x : UInt8) : bits BinOp.and IntKind.u8 (x.toNat : Int) 15 = ((x.toNat % 16 : Nat) : Int) := and15_all ⟨x.toNat, x.toNat_lt⟩
def digs : ByteArray := ⟨#[48, 49, 50, 51, 52, 53, 54, 55, 56, 57, 97, 98, 99, 100, 101, 102]⟩
theorem digs_all : ∀ n : Fin 16, digs[n.val]'(n.isLt) = hexd n.val := by decide
theorem digs_at (n : Nat) (h : n < 16) : (digs[n]'h) = hexd n := digs_all ⟨n, h⟩

set_option maxHeartbeats 2000000 in
theorem hex_calls {v : Value} {l : List UInt8} (hlen : l.length ≤ 1000000) (w : World) (h : By w v l) :
    Calls Tryd.prog 37 #[v] w fun e w' => e = .returned (.string (str (hexP l))) ∧ Below w.heap.size w w' := by
  have HB := Aside0.mk h
  obtain ⟨A, c, rfl, hc, hr⟩ := h
  clear hc hr
  by_cases hl : l = []
  · subst hl
    clear HB
    go_enter Tryd.func37, Tryd.ntmps37
    go_wp2
    go_ret
    exact ⟨rfl, Below.refl _ _⟩
  · obtain ⟨_, ad, rfl, hcell⟩ := HB.out.cells hl
    have ep : hexP l = hexb l := if_neg hl
    rw [ep]
    have hz : ((l.length : Int) == 0) = false := by
      have := List.length_pos_iff.2 hl
      rw [beq_eq_false_iff_ne]; omega
    have HC := Aside0.mk hcell
    clear hcell ep HB hl
    go_enter Tryd.func37, Tryd.ntmps37
    go_wp2_with fail
    go_loopw [5, 11] (fun _ i wr => ∃ k : Nat, i = .int .i64 (k : Int) ∧ k ≤ l.length ∧ Aside0 (Lib.IsBuilder 104 5 w.heap.size w.heap.size (Lib.byteCells (hexb (l.take k))) wr ∧ Below w.heap.size w wr)) (fun _ i _ => l.length - (intOf i).toNat)
    case atStart => 
      refine ⟨0, rfl, Nat.zero_le _, Aside0.mk ⟨Or.inl ⟨Nat.le_refl _, _, heap_alloc_new w _, ?_, ?_⟩, (Below.refl _ _).alloc (Nat.le_refl _) _⟩⟩
      · exact ⟨rfl, Or.inl ⟨rfl, rfl⟩⟩
      · simp [Value.ownBlock]
    case round =>
      obtain ⟨k, rfl, hk, HS⟩ := hrel
      by_cases hlt : k < l.length
      · have hcl : wr.cell? (ad.add k) = some (.int .u8 (l[k].toNat)) := pw_cell_below HS.out.2 (HC.out k hlt)
        have h256 := l[k].toNat_lt
        generalize hx : l[k] = x at *
        have HX := Aside0.mk hx
        clear hx
        go_wp2_with fail
        have hb1 : (hexb (l.take k)).length ≤ 2000000 := by rw [hexb_len, List.length_take]; omega
        refine (wbyte_calls _ _ _ _ wr HS.out.1 (by rw [Lib.byteCells_length]; omega) HS.out.2.size).mono ?_
        rintro e w1 ⟨rfl, hi1, hb1⟩
        have HB1 := Aside0.mk (HS.out.2.trans hb1)
        have HI1 := Aside0.mk hi1
        have ea := and15 x
        clear hb1 hi1
        generalize hm : x.toNat % 16 = m at *
        have hm16 : m < 16 := by omega
        have HM := Aside0.mk hm
        clear hm
        go_wp2_with fail
        refine (wbyte_calls _ _ _ _ w1 (Or.inr HI1.out) (by rw [List.length_append, Lib.byteCells_length]; simp; omega) HB1.out.size).mono ?_
        rintro e w2 ⟨rfl, hi2, hb2⟩
        have hi3 : Lib.BuilderAt 104 5 w.heap.size w.heap.size (.pointer (some ⟨w.heap.size, 0, none⟩)) (Lib.byteCells (hexb (l.take (k + 1)))) w2 := by
          rw [List.take_succ_eq_append_getElem hlt, HX.out, hexb_snoc, Lib.byteCells_append]
          have e2 : Lib.byteCells [hexd (x.toNat / 16), hexd (x.toNat % 16)] = [.int .u8 ((hexd (x.toNat / 16)).toNat)] ++ [.int .u8 ((hexd (x.toNat % 16)).toNat)] := rfl
          rw [e2, ← List.append_assoc, ← digs_at (x.toNat / 16) (by omega), ← digs_at (x.toNat % 16) (by omega)]
          simp only [HM.out]
          exact hi2
        have HI3 := Aside0.mk hi3
        have HB2 := Aside0.mk (HB1.out.trans hb2)
        clear hi3 hi2 hb2
        go_wp2_with fail
        go_roundw
        case rel => exact ⟨k + 1, by simp, by omega, Aside0.mk ⟨Or.inr HI3.out, HB2.out⟩⟩
        case measure => simp [intOf]; omega
      · have ek : k = l.length := by omega
        subst ek
        have HS2 := HS.out.1
        rw [List.take_length] at HS2
        have HT := Aside0.mk HS2
        clear HS2 hlt
        go_wp2_with fail
        refine (Tryd.Builder_String_any _ _ _ wr HT.out HS.out.2.size).mono ?_
        rintro e w1 ⟨rfl, hb1⟩
        go_wp2_with fail
        go_ret
        exact ⟨rfl, HS.out.2.trans (hb1.mono (Nat.le_refl _))⟩
end Go.Proofs.YtfjjikabinelgaaDoor
namespace Go.Proofs.YtfjjikabinelgaaDoor
open Go.RowKit Go.Maps Go.Proofs Go.Proofs.YtfjjikabinelgaaDoorW.PrintWords Go.Proofs.YtfjjikabinelgaaDoorW.PrintLast Go.Proofs.YtfjjikabinelgaaDoorW.PrintMore Sc PScriptLines
set_option linter.unusedVariables false
set_option linter.unusedSimpArgs false

/-- Block p is a variable that holds the parts xs; what lay in w0 lies yet. -/
structure TX (w0 : World) (p : Nat) (w : World) (xs : List (List UInt8)) : Prop where
  bel : Below w0.heap.size w0 w
  ge : w0.heap.size ≤ p
  row : ∃ v, w.heap[p]? = some (.cells #[v] 59 (0, 0)) ∧ Kd.R Kd.string 9 w w0.heap.size (fun k => k ≠ p) v (xs.map str)

theorem TX.below {w0 w w1 : World} {p : Nat} {xs : List (List UInt8)} (h : TX w0 p w xs) (hb : Below w.heap.size w w1) : TX w0 p w1 xs := by
  obtain ⟨v, h1, h2⟩ := h.row
  exact ⟨h.bel.trans (hb.mono h.bel.size), h.ge, v, (hb.block _ (blk_lt h1)).trans h1, Kd.R_below h2 hb⟩

set_option maxHeartbeats 2000000 in
theorem add_calls {w0 w : World} {p : Nat} {xs : List (List UInt8)} (h : TX w0 p w xs) (hx : xs.length ≤ 100) (b : Bool) (s : List UInt8) :
    Calls Tryd.prog 34 #[.bool b, .string (str s), .pointer (some ⟨p, 0, none⟩)] w fun e w' => e = .returned (.tuple #[]) ∧ TX w0 p w' (if b then xs ++ [s] else xs) := by
  have HT := Aside0.mk h
  obtain ⟨v, hb, hR⟩ := h.row
  have HB := Aside0.mk hb
  have HR := Aside0.mk hR
  have hcell : w.cell? ⟨p, 0, none⟩ = some v := blk_cell hb 0
  have hfr : w.frozen? ⟨p, 0, none⟩ = false := blk_frozen hb 0
  obtain ⟨A, c, rfl⟩ := Kd.R_slice hR
  rw [List.length_map] at hcell HB HR
  clear h hb hR
  cases b with
  | false =>
    go_enter Tryd.func34, Tryd.ntmps34
    go_wp2_with fail
    go_end0
    exact ⟨rfl, HT.out⟩
  | true =>
    go_enter Tryd.func34, Tryd.ntmps34
    go_wp2_with (at_builtin; refine Kd.R_append Kd.string (w0 := w0) w0.heap.size rfl (.tmp 6) (.tmp 8) 59 9 (.string ⟨#[]⟩) 16 rfl Tryd.underlying59 info9 rfl (by decide) (by omega) (.slice A xs.length c) (xs.map str) (str s) [.string (str s)] (fun k => k ≠ p) (fun _ => False) rfl rfl rfl (fun _ hk => hk.elim) (fun k hk => by have := blk_lt HB.out; omega) HR.out HT.out.bel HT.out.bel.size (by rw [List.length_map]; omega) ?_; intro v1 w2 hR2 hb2 hg2 hat2; obtain ⟨A1, c1, rfl⟩ := Kd.R_slice hR2; have hbk2 : w2.heap[p]? = some (.cells #[.slice A xs.length c] 59 (0, 0)) := (hg2.block p (blk_lt HB.out) (fun e => HR.out.1 p e.symm rfl)).trans HB.out; have hc2 : w2.cell? ⟨p, 0, none⟩ = some (.slice A xs.length c) := blk_cell hbk2 0; have hf2 : w2.frozen? ⟨p, 0, none⟩ = false := blk_frozen hbk2 0)
    go_end0
    refine ⟨rfl, hb2.setCell HT.out.ge _, HT.out.ge, _, blk_set hbk2 0 _, ?_⟩
    have el : (xs.map str ++ [str s]).length = xs.length + 1 := by simp
    rw [el] at hR2
    rw [List.map_append]
    exact Kd.R_far hR2 (fun k hk => hk) _
end Go.Proofs.YtfjjikabinelgaaDoor
namespace Go.Proofs.YtfjjikabinelgaaDoor
open Go.RowKit Go.Maps Go.Proofs Go.Proofs.YtfjjikabinelgaaDoorW.PrintWords Go.Proofs.YtfjjikabinelgaaDoorW.PrintLast Go.Proofs.YtfjjikabinelgaaDoorW.PrintMore Sc PScriptLines
set_option linter.unusedVariables false
set_option linter.unusedSimpArgs false

theorem idx_wsu0 (W : World) : (Instr.index 79 (.agg wsA) (.int .u8 ((0 : Nat) : Int))).run Tryd.prog W = .ok (.string (str (word 0))) W := by kernel_rfl
theorem idx_wsu1 (W : World) : (Instr.index 79 (.agg wsA) (.int .u8 ((1 : Nat) : Int))).run Tryd.prog W = .ok (.string (str (word 1))) W := by kernel_rfl
theorem idx_wsu2 (W : World) : (Instr.index 79 (.agg wsA) (.int .u8 ((2 : Nat) : Int))).run Tryd.prog W = .ok (.string (str (word 2))) W := by kernel_rfl
theorem idx_wsu3 (W : World) : (Instr.index 79 (.agg wsA) (.int .u8 ((3 : Nat) : Int))).run Tryd.prog W = .ok (.string (str (word 3))) W := by kernel_rfl
theorem idx_wsu4 (W : World) : (Instr.index 79 (.agg wsA) (.int .u8 ((4 : Nat) : Int))).run Tryd.prog W = .ok (.string (str (word 4))) W := by kernel_rfl
theorem idx_wsu5 (W : World) : (Instr.index 79 (.agg wsA) (.int .u8 ((5 : Nat) : Int))).run Tryd.prog W = .ok (.string (str (word 5))) W := by kernel_rfl
theorem idx_wsu6 (W : World) : (Instr.index 79 (.agg wsA) (.int .u8 ((6 : Nat) : Int))).run Tryd.prog W = .ok (.string (str (word 6))) W := by kernel_rfl
theorem idx_wsu7 (W : World) : (Instr.index 79 (.agg wsA) (.int .u8 ((7 : Nat) : Int))).run Tryd.prog W = .ok (.string (str (word 7))) W := by kernel_rfl
theorem idx_wsu8 (W : World) : (Instr.index 79 (.agg wsA) (.int .u8 ((8 : Nat) : Int))).run Tryd.prog W = .ok (.string (str (word 8))) W := by kernel_rfl
theorem idx_wsu9 (W : World) : (Instr.index 79 (.agg wsA) (.int .u8 ((9 : Nat) : Int))).run Tryd.prog W = .ok (.string (str (word 9))) W := by kernel_rfl
theorem idx_wsu (k : Nat) (hk : k ≤ 9) : ∀ W : World, (Instr.index 79 (.agg wsA) (.int .u8 k)).run Tryd.prog W = .ok (.string (str (word k))) W := by
  intro W
  have hcase : k = 0 ∨ k = 1 ∨ k = 2 ∨ k = 3 ∨ k = 4 ∨ k = 5 ∨ k = 6 ∨ k = 7 ∨ k = 8 ∨ k = 9 := by omega
  rcases hcase with rfl | rfl | rfl | rfl | rfl | rfl | rfl | rfl | rfl | rfl
  · exact idx_wsu0 W
  · exact idx_wsu1 W
  · exact idx_wsu2 W
  · exact idx_wsu3 W
  · exact idx_wsu4 W
  · exact idx_wsu5 W
  · exact idx_wsu6 W
  · exact idx_wsu7 W
  · exact idx_wsu8 W
  · exact idx_wsu9 W

theorem itoa_calls (n : Int) (h0 : 0 ≤ n) (h1 : n ≤ 1099511627776) (w : World) (he : Env w) :
    Calls Tryd.prog 35 #[.int .i64 n] w fun e w' => e = .returned (.string (str (Lib.decDigits n.toNat))) ∧ Below w.heap.size w w' := by
  refine (Tryd.strconv_Itoa n (by omega) (by omega) w he.pow10).mono ?_
  rintro e w' ⟨rfl, k, os, rfl⟩
  refine ⟨?_, Go.Lib.below_grow _ _ (Nat.le_refl _) _ _⟩
  have : Lib.itoa n = Lib.decDigits n.toNat := by
    unfold Lib.itoa
    first | rfl | (rw [if_neg (by omega)]) | (split <;> first | omega | (congr 1 <;> omega))
  rw [this]
  rfl

theorem join_eq (c : UInt8) : ∀ xs : List (List UInt8), Lib.join xs [c] = joinc c xs
  | [] => rfl
  | [x] => by simp [Lib.join, List.intercalate, joinc]
  | x :: y :: r => by
    rw [joinc_cons c x (by simp), ← join_eq c (y :: r)]
    simp [Lib.join, List.intercalate]

/-- The parts, as Text adds them. -/
def addL (b : Bool) (xs : List (List UInt8)) (s : List UInt8) : List (List UInt8) := if b then xs ++ [s] else xs
theorem addL_len (b : Bool) (xs : List (List UInt8)) (s : List UInt8) : (addL b xs s).length ≤ xs.length + 1 := by unfold addL; split <;> simp
def oneD (e : Bool) : List UInt8 := if e then [49] else [48]
theorem addL_eq (b : Bool) (xs : List (List UInt8)) (s : List UInt8) : addL b xs s = xs ++ (if b then [s] else []) := by unfold addL; cases b <;> simp
theorem addL_fields (k s d : Nat) (n : Int) (e : Bool) (p dat : List UInt8) :
    addL (hasD k) (addL (k9 k) (addL (k7 k) (addL (k0 k) (addL (hasN k) (addL (sided k) [word k] (Lib.decDigits s)) (Lib.decDigits n.toNat)) (Lib.decDigits d)) (oneD e)) p) (hexP dat) = fields ⟨k, s, n, d, e, p, dat⟩ := by
  simp only [addL_eq, fields, fSide, fN, fDraw, fDone, fPath, fData, k0, k7, k9, oneD]
  simp

theorem dec_len20 (u : Nat) (h : u < 18446744073709551616) : (Lib.decDigits u).length ≤ 20 := by
  rw [Lib.decDigits_length]
  exact Lib.nDigits_le20 u h
theorem joinc_len (c : UInt8) (M : Nat) : ∀ xs : List (List UInt8), (∀ x ∈ xs, x.length ≤ M) → (joinc c xs).length ≤ xs.length * (M + 1)
  | [], _ => by simp [joinc]
  | [x], h => by have := h x (by simp); simp [joinc]; omega
  | x :: y :: r, h => by
    rw [joinc_cons c x (by simp)]
    have h1 := h x (by simp)
    have h2 := joinc_len c M (y :: r) (fun z hz => h z (List.mem_cons_of_mem _ hz))
    simp only [List.length_append, List.length_cons] at h2 ⊢
    rw [Nat.add_mul]
    omega
theorem word_len10 (k : Nat) : (word k).length ≤ 8 := by
  unfold word
  repeat (split; · decide)
  decide
theorem fields_len {k s d : Nat} {n : Int} {e : Bool} {p dat : List UInt8} (hs : s < 256) (hn : n ≤ 1099511627776) (hd : d < 4294967296) (hp : p.length ≤ 1000000) (hdl : dat.length ≤ 1000000) : ∀ x ∈ fields ⟨k, s, n, d, e, p, dat⟩, x.length ≤ 3000000 := by
  intro f hf
  unfold fields at hf
  simp only [List.mem_cons, List.mem_append] at hf
  rcases hf with rfl | hf | hf | hf | hf | hf | hf
  · have := word_len10 k; omega
  · obtain ⟨_, rfl⟩ := mem_if hf; have := dec_len20 s (by omega); omega
  · obtain ⟨_, rfl⟩ := mem_if hf; have := dec_len20 n.toNat (by omega); omega
  · obtain ⟨_, rfl⟩ := mem_if hf; have := dec_len20 d (by omega); omega
  · obtain ⟨_, rfl⟩ := mem_if hf; split <;> simp
  · obtain ⟨_, rfl⟩ := mem_if hf; omega
  · obtain ⟨_, rfl⟩ := mem_if hf
    unfold hexP
    split
    · simp
    · rw [hexb_len]; omega

theorem blk_new {W : World} {o : Obj} {i : Nat} (hi : i = W.heap.size) : (W.alloc o).heap[i]? = some o := by
  subst hi
  exact heap_alloc_new W o
theorem blk_old {W : World} {o x : Obj} {i : Nat} (hi : i < W.heap.size) (h : W.heap[i]? = some x) : (W.alloc o).heap[i]? = some x := (Below.heap_alloc _ _ _ hi).trans h
theorem blk_drew {W : World} {x : Obj} {i : Nat} (h : W.heap[i]? = some x) : W.drew.heap[i]? = some x := h

theorem tx_one {WB W4 : World} {q b : Nat} {s : List UInt8} (hq : W4.heap[q]? = some (.cells #[.slice (some ⟨b, 0, none⟩) 1 1] 59 (0, 0))) (hb : W4.heap[b]? = some (.cells #[.string (str s)] 9 (0, 0))) (hB : Below WB.heap.size WB W4) (h1 : WB.heap.size ≤ q) (h2 : WB.heap.size ≤ b) (hne : b ≠ q) : TX WB q W4 [s] :=
  ⟨hB, h1, _, hq, fun k hk => (by injection hk with hk; subst hk; exact hne), [.string (str s)], ⟨rfl, Or.inr ⟨b, 1, #[.string (str s)], rfl, h2, hb, Nat.le_refl _, by unfold maxLen; omega, rfl, rfl⟩⟩, Reps.snoc (ps := []) (cs := []) (c := [.string (str s)]) (Reps.none _ _) rfl rfl⟩

end Go.Proofs.YtfjjikabinelgaaDoor
namespace Go.Proofs.YtfjjikabinelgaaDoor
open Go.RowKit Go.Maps Go.Proofs Go.Proofs.YtfjjikabinelgaaDoorW.PrintWords Go.Proofs.YtfjjikabinelgaaDoorW.PrintLast Go.Proofs.YtfjjikabinelgaaDoorW.PrintMore Sc PScriptLines
set_option linter.unusedVariables false
set_option linter.unusedSimpArgs false

set_option maxHeartbeats 4000000 in
set_option maxRecDepth 100000 in
theorem text_step {k s d : Nat} {n : Int} {e : Bool} {p dat : List UInt8} {dv : Value} (hk : k < 256) (hs : s < 256) (hn0 : -9223372036854775808 ≤ n) (hn1 : n ≤ 9223372036854775807) (hd : d < 4294967296) (hp : p.length ≤ 1000000) (hdl : dat.length ≤ 1000000)
    (w : World) (hv : By w dv dat) (he : Env w) :
    Calls Tryd.prog 14 #[.agg #[.int .u8 k, .int .u8 s, .int .i64 n, .int .u32 d, .bool e, .string (str p), dv]] w fun r w' => r = .returned (.string (str (textP ⟨k, s, n, d, e, p, dat⟩))) ∧ Below w.heap.size w w' := by
  have HV := Aside0.mk hv
  have HE := Aside0.mk he
  obtain ⟨dA, dc, rfl, _, _⟩ := hv
  clear he
  obtain ⟨res, hres⟩ : ∃ res, res = textP ⟨k, s, n, d, e, p, dat⟩ := ⟨_, rfl⟩
  rw [← hres]
  have HRES := Aside0.mk hres
  clear hres
  have hno : ¬ has ⟨k, s, n, d, e, p, dat⟩ → res = [] := fun h => by rw [HRES.out]; exact if_neg h
  by_cases h1 : k ≤ 9
  rotate_left
  · have HN := Aside0.mk (hno (fun h => h1 h.1))
    have h1' : (9 : Int) < k := by omega
    clear hno h1
    go_enter Tryd.func14, Tryd.ntmps14
    go_wp2_with fail
    go_ret
    rw [HN.out]
    exact ⟨rfl, (Below.refl _ _).alloc (Nat.le_refl _) _⟩
  by_cases h2 : s ≤ 1
  rotate_left
  · have HN := Aside0.mk (hno (fun h => h2 h.2.1))
    have h1' : ¬ (9 : Int) < k := by omega
    have h2' : (1 : Int) < s := by omega
    clear hno h1 h2
    go_enter Tryd.func14, Tryd.ntmps14
    go_wp2_with fail
    go_ret
    rw [HN.out]
    exact ⟨rfl, (Below.refl _ _).alloc (Nat.le_refl _) _⟩
  by_cases h3 : 0 ≤ n
  rotate_left
  · have HN := Aside0.mk (hno (fun h => h3 h.2.2.1))
    have h1' : ¬ (9 : Int) < k := by omega
    have h2' : ¬ (1 : Int) < s := by omega
    have h3' : n < 0 := by omega
    clear hno h1 h2 h3
    go_enter Tryd.func14, Tryd.ntmps14
    go_wp2_with fail
    go_ret
    rw [HN.out]
    exact ⟨rfl, (Below.refl _ _).alloc (Nat.le_refl _) _⟩
  by_cases h4 : n ≤ 1099511627776
  rotate_left
  · have HN := Aside0.mk (hno (fun h => h4 h.2.2.2.1))
    have h1' : ¬ (9 : Int) < k := by omega
    have h2' : ¬ (1 : Int) < s := by omega
    have h3' : ¬ n < 0 := by omega
    have h4' : 1099511627776 < n := by omega
    clear hno h1 h2 h3 h4
    go_enter Tryd.func14, Tryd.ntmps14
    go_wp2_with fail
    go_ret
    rw [HN.out]
    exact ⟨rfl, (Below.refl _ _).alloc (Nat.le_refl _) _⟩
  have h1' : ¬ (9 : Int) < k := by omega
  have h2' : ¬ (1 : Int) < s := by omega
  have h3' : ¬ n < 0 := by omega
  have h4' : ¬ 1099511627776 < n := by omega
  have HNO := Aside0.mk hno
  have H1 := Aside0.mk h1
  have H2 := Aside0.mk h2
  have H3 := Aside0.mk h3
  have H4 := Aside0.mk h4
  clear hno h1 h2 h3 h4
  go_enter Tryd.func14, Tryd.ntmps14
  go_upto_region 4 with (go_at_call 24; refine (parts_calls2 k H1.out _).mono ?_; rintro e w5 ⟨rfl, rfl⟩)
  have HWB : Aside0 (Below w.heap.size w (((w.alloc (.cells #[.int .u8 k, .int .u8 s, .int .i64 n, .int .u32 d, .bool e, .string (str p), .slice dA dat.length dc] 33)).alloc (.cells #[.bool (sided k), .bool (hasN k), .bool (k0 k), .bool (k7 k), .bool (k9 k), .bool (hasD k)] 68)).alloc (.cells #[.bool (sided k), .bool (hasN k), .bool (k0 k), .bool (k7 k), .bool (k9 k), .bool (hasD k)] 68))) := Aside0.mk ((((Below.refl w.heap.size w).alloc (Nat.le_refl _) _).alloc (by simp) _).alloc (by simp <;> omega) _)
  have HXB : Aside0 ((((w.alloc (.cells #[.int .u8 k, .int .u8 s, .int .i64 n, .int .u32 d, .bool e, .string (str p), .slice dA dat.length dc] 33)).alloc (.cells #[.bool (sided k), .bool (hasN k), .bool (k0 k), .bool (k7 k), .bool (k9 k), .bool (hasD k)] 68)).alloc (.cells #[.bool (sided k), .bool (hasN k), .bool (k0 k), .bool (k7 k), .bool (k9 k), .bool (hasD k)] 68)).heap[w.heap.size]? = some (.cells #[.int .u8 k, .int .u8 s, .int .i64 n, .int .u32 d, .bool e, .string (str p), .slice dA dat.length dc] 33 (0, 0))) := Aside0.mk (by
    rw [Below.heap_alloc _ _ _ (by simp <;> omega), Below.heap_alloc _ _ _ (by simp <;> omega)]
    exact heap_alloc_new w _)
  have HHB : Aside0 ((((w.alloc (.cells #[.int .u8 k, .int .u8 s, .int .i64 n, .int .u32 d, .bool e, .string (str p), .slice dA dat.length dc] 33)).alloc (.cells #[.bool (sided k), .bool (hasN k), .bool (k0 k), .bool (k7 k), .bool (k9 k), .bool (hasD k)] 68)).alloc (.cells #[.bool (sided k), .bool (hasN k), .bool (k0 k), .bool (k7 k), .bool (k9 k), .bool (hasD k)] 68)).heap[w.heap.size + 1 + 1]? = some (.cells #[.bool (sided k), .bool (hasN k), .bool (k0 k), .bool (k7 k), .bool (k9 k), .bool (hasD k)] 68 (0, 0))) := Aside0.mk (by
    have := heap_alloc_new ((w.alloc (.cells #[.int .u8 k, .int .u8 s, .int .i64 n, .int .u32 d, .bool e, .string (str p), .slice dA dat.length dc] 33)).alloc (.cells #[.bool (sided k), .bool (hasN k), .bool (k0 k), .bool (k7 k), .bool (k9 k), .bool (hasD k)] 68)) (.cells #[.bool (sided k), .bool (hasN k), .bool (k0 k), .bool (k7 k), .bool (k9 k), .bool (hasD k)] 68)
    simp only [World.size_alloc] at this
    exact this)
  generalize (((w.alloc (.cells #[.int .u8 k, .int .u8 s, .int .i64 n, .int .u32 d, .bool e, .string (str p), .slice dA dat.length dc] 33)).alloc (.cells #[.bool (sided k), .bool (hasN k), .bool (k0 k), .bool (k7 k), .bool (k9 k), .bool (hasD k)] 68)).alloc (.cells #[.bool (sided k), .bool (hasN k), .bool (k0 k), .bool (k7 k), .bool (k9 k), .bool (hasD k)] 68)) = WB at *
  have hidx := idx_wsu k H1.out
  have hx0 : WB.cell? ⟨w.heap.size, 0, none⟩ = some (.int .u8 k) := blk_cell HXB.out 0
  have hlx := blk_lt HXB.out
  have HALL : Aside0 (∀ W', Below WB.heap.size WB W' → W'.cell? ⟨w.heap.size, 0, none⟩ = some (.int .u8 k)) := Aside0.mk (fun W' hb => pw_cell_below hb hx0)
  go_cut [4] (fun v4 wc => ∃ q, v4 = .pointer (some ⟨q, 0, none⟩) ∧ Aside0 (TX WB q wc [word k]))
  case first =>
    go_region_held3 (fun w' => w'.cell? ⟨w.heap.size, 0, none⟩ = some (.int .u8 k)) (exact HALL.out _ (by repeat (first | exact Below.refl _ _ | apply below_alloc | apply pw_below_drewN | apply below_drew1 | (refine Below.setCell ?_ (by simp <;> omega) _)))) (first | (go_at_call 33; refine (words_calls _).mono ?_; rintro e w6 ⟨rfl, rfl⟩))
    all_goals
      go_wp2_with fail
      go_meet
      first | (exact ⟨_, rfl, Aside0.mk (tx_one (b := WB.heap.size + 1) (by (refine blk_drew ?_; first | exact blk_new (by simp) | (refine blk_old (by simp <;> omega) ?_; first | exact blk_new (by simp) | (refine blk_old (by simp <;> omega) ?_; exact blk_new (by simp))))) (by (refine blk_drew ?_; first | exact blk_new (by simp) | (refine blk_old (by simp <;> omega) ?_; first | exact blk_new (by simp) | (refine blk_old (by simp <;> omega) ?_; exact blk_new (by simp))))) (by repeat (first | exact Below.refl _ _ | apply below_alloc | apply pw_below_drewN | apply below_drew1)) (by omega) (by omega) (by omega))⟩) | (exact ⟨_, rfl, Aside0.mk (tx_one (b := WB.heap.size + 1 + 1) (by (refine blk_drew ?_; first | exact blk_new (by simp) | (refine blk_old (by simp <;> omega) ?_; first | exact blk_new (by simp) | (refine blk_old (by simp <;> omega) ?_; exact blk_new (by simp))))) (by (refine blk_drew ?_; first | exact blk_new (by simp) | (refine blk_old (by simp <;> omega) ?_; first | exact blk_new (by simp) | (refine blk_old (by simp <;> omega) ?_; exact blk_new (by simp))))) (by repeat (first | exact Below.refl _ _ | apply below_alloc | apply pw_below_drewN | apply below_drew1)) (by omega) (by omega) (by omega))⟩) | (exact ⟨_, rfl, Aside0.mk (tx_one (b := WB.heap.size) (by (refine blk_drew ?_; first | exact blk_new (by simp) | (refine blk_old (by simp <;> omega) ?_; first | exact blk_new (by simp) | (refine blk_old (by simp <;> omega) ?_; exact blk_new (by simp))))) (by (refine blk_drew ?_; first | exact blk_new (by simp) | (refine blk_old (by simp <;> omega) ?_; first | exact blk_new (by simp) | (refine blk_old (by simp <;> omega) ?_; exact blk_new (by simp))))) (by repeat (first | exact Below.refl _ _ | apply below_alloc | apply pw_below_drewN | apply below_drew1)) (by omega) (by omega) (by omega))⟩)
  case rest =>
    obtain ⟨q, rfl, HT⟩ := hcut
    clear hx0 hidx HALL hlx
    have HFH : Aside0 (∀ (j : Nat) W', Below WB.heap.size WB W' → W'.cell? ⟨w.heap.size + 1 + 1, j, none⟩ = (#[.bool (sided k), .bool (hasN k), .bool (k0 k), .bool (k7 k), .bool (k9 k), .bool (hasD k)] : Array Value)[j]?) := Aside0.mk (fun j W' hb => blk_cell ((hb.block _ (blk_lt HHB.out)).trans HHB.out) j)
    have HFX : Aside0 (∀ (j : Nat) W', Below WB.heap.size WB W' → W'.cell? ⟨w.heap.size, j, none⟩ = (#[.int .u8 k, .int .u8 s, .int .i64 n, .int .u32 d, .bool e, .string (str p), .slice dA dat.length dc] : Array Value)[j]?) := Aside0.mk (fun j W' hb => blk_cell ((hb.block _ (blk_lt HXB.out)).trans HXB.out) j)
    have HEV : Aside0 (∀ W', Below WB.heap.size WB W' → Env W') := Aside0.mk (fun W' hb => HE.out.below (HWB.out.trans (hb.mono HWB.out.size)))
    have HBY : Aside0 (∀ W', Below WB.heap.size WB W' → By W' (.slice dA dat.length dc) dat) := Aside0.mk (fun W' hb => HV.out.below (HWB.out.trans (hb.mono HWB.out.size)))
    have hh4 : wc.cell? ⟨w.heap.size + 1 + 1, 4, none⟩ = some (.bool (k9 k)) := HFH.out 4 _ HT.out.bel
    have hx5 : wc.cell? ⟨w.heap.size, 5, none⟩ = some (.string (str p)) := HFX.out 5 _ HT.out.bel
    go_upto_region 6 with fail
    go_cut [41] (fun v41 wc => v41 = .bool (k9 k && decide (checkN p ≠ 0)) ∧ Aside0 (TX WB q wc [word k]))
    case first =>
      by_cases h9 : k9 k = true
      · have HS9 := Aside0.mk h9
        rw [h9] at hh4
        clear h9
        go_wp2_with fail
        refine (check_calls p (by omega) wc (HEV.out _ HT.out.bel)).mono ?_
        rintro r w6 ⟨rfl, hb6⟩
        have HT6 := Aside0.mk (HT.out.below hb6)
        clear hb6
        by_cases hn : checkN p = 0
        · rw [hn]
          have ed : decide (checkN p ≠ 0) = false := by simp [hn]
          have HED := Aside0.mk ed
          clear hn ed
          go_wp2_with fail
          go_meet
          exact ⟨by rw [HED.out, Bool.and_false], HT6⟩
        · have hz : (checkN p != 0) = true := by simpa using hn
          have HN := Aside0.mk hn
          clear hn
          go_wp2_with fail
          go_meet
          exact ⟨by rw [HS9.out, decide_eq_true HN.out]; rfl, HT6⟩
      · have h9' : k9 k = false := by simpa using h9
        have HS9 := Aside0.mk h9'
        rw [h9'] at hh4
        clear h9 h9'
        go_wp2_with fail
        go_meet
        exact ⟨by rw [HS9.out]; rfl, HT⟩
    case rest =>
      obtain ⟨rfl, HT2⟩ := hcut
      clear HT hh4 hx5
      cases hbad : k9 k && decide (checkN p ≠ 0) with
      | true =>
        have HN := Aside0.mk (HNO.out (fun h => by
          simp only [Bool.and_eq_true, decide_eq_true_eq] at hbad
          exact hbad.2 (h.2.2.2.2 (by simpa [k9] using hbad.1))))
        clear hbad
        go_wp2_with fail
        go_ret
        rw [HN.out]
        exact ⟨rfl, HWB.out.trans (HT2.out.bel.mono HWB.out.size)⟩
      | false =>
        have HGD := Aside0.mk hbad
        clear hbad
        have hx4 : wc.cell? ⟨w.heap.size, 4, none⟩ = some (.bool e) := HFX.out 4 _ HT2.out.bel
        go_upto_if 43 with fail
        generalize hwe : wc = we at *
        clear hwe
        go_cut [6] (fun v6 wx => v6 = .string (str (oneD e)) ∧ wx = we)
        case first =>
          cases e with
          | true =>
            go_wp2_with fail
            go_meet
            exact ⟨rfl, rfl⟩
          | false =>
            go_wp2_with fail
            go_meet
            exact ⟨rfl, rfl⟩
        case rest =>
          obtain ⟨rfl, rfl⟩ := hcut
          clear hx4
          go_upto_region 11 with fail
          have hh : wc.cell? ⟨w.heap.size + 1 + 1, 0, none⟩ = some (.bool (sided k)) := HFH.out 0 _ HT2.out.bel
          have hx : wc.cell? ⟨w.heap.size, 1, none⟩ = some (.int .u8 s) := HFX.out 1 _ HT2.out.bel
          have hw : IntKind.i64.wrap (s : Int) = s := IntWalk.i64_in _ (by omega)
          go_cut [] (fun wc => Aside0 (TX WB q wc (addL (sided k) [word k] (Lib.decDigits s))))
          case first =>
            go_region_held3 (fun w' => w'.cell? ⟨w.heap.size + 1 + 1, 0, none⟩ = some (.bool (sided k)) ∧ w'.cell? ⟨w.heap.size, 1, none⟩ = some (.int .u8 s)) (exact ⟨HFH.out 0 _ (by repeat (first | exact HT3.out.bel | exact HCA.out | exact HT2.out.bel | apply below_alloc | apply pw_below_drewN | apply below_drew1)), HFX.out 1 _ (by repeat (first | exact HT3.out.bel | exact HCA.out | exact HT2.out.bel | apply below_alloc | apply pw_below_drewN | apply below_drew1))⟩) (first | (go_at_call 35; refine (itoa_calls s (by omega) (by omega) _ (HEV.out _ (by repeat (first | exact HT2.out.bel | apply below_alloc | apply pw_below_drewN | apply below_drew1)))).mono ?_; rintro r w6 ⟨rfl, hb6⟩; have HCA : Aside0 (Below WB.heap.size WB w6) := Aside0.mk (Below.trans (by repeat (first | exact HT2.out.bel | apply below_alloc | apply pw_below_drewN | apply below_drew1)) (hb6.mono (Below.size (by repeat (first | exact HT2.out.bel | apply below_alloc | apply pw_below_drewN | apply below_drew1))))); have HDA : Aside0 (TX WB q w6 [word k]) := Aside0.mk (TX.below (HT2.out.below (by repeat (first | exact Below.refl _ _ | apply below_alloc | apply pw_below_drewN | apply below_drew1))) hb6); clear hb6) | (go_at_call 34; refine (add_calls (xs := [word k]) (HDA.out.below (by repeat (first | exact Below.refl _ _ | apply below_alloc | apply pw_below_drewN | apply below_drew1))) (Nat.le_trans (Nat.le_refl 1) (by decide)) (sided k) (Lib.decDigits s)).mono ?_; rintro r w7 ⟨rfl, ht7⟩; have HT3 : Aside0 (TX WB q w7 (addL (sided k) [word k] (Lib.decDigits s))) := Aside0.mk ht7; clear ht7))
            all_goals (go_wp2_with fail)
            all_goals go_meet
            all_goals exact Aside0.mk (HT3.out.below (by repeat (first | exact Below.refl _ _ | apply below_alloc | apply pw_below_drewN | apply below_drew1)))
          case rest =>
            have HT3 := hcut
            clear hcut hh hx HT2
            go_upto_region 12 with fail
            have hh : wc.cell? ⟨w.heap.size + 1 + 1, 1, none⟩ = some (.bool (hasN k)) := HFH.out 1 _ HT3.out.bel
            have hx : wc.cell? ⟨w.heap.size, 2, none⟩ = some (.int .i64 n) := HFX.out 2 _ HT3.out.bel
            go_cut [] (fun wc => Aside0 (TX WB q wc (addL (hasN k) (addL (sided k) [word k] (Lib.decDigits s)) (Lib.decDigits n.toNat))))
            case first =>
              go_region_held3 (fun w' => w'.cell? ⟨w.heap.size + 1 + 1, 1, none⟩ = some (.bool (hasN k)) ∧ w'.cell? ⟨w.heap.size, 2, none⟩ = some (.int .i64 n)) (exact ⟨HFH.out 1 _ (by repeat (first | exact HT4.out.bel | exact HCB.out | exact HT3.out.bel | apply below_alloc | apply pw_below_drewN | apply below_drew1)), HFX.out 2 _ (by repeat (first | exact HT4.out.bel | exact HCB.out | exact HT3.out.bel | apply below_alloc | apply pw_below_drewN | apply below_drew1))⟩) (first | (go_at_call 35; refine (itoa_calls n H3.out H4.out _ (HEV.out _ (by repeat (first | exact HT3.out.bel | apply below_alloc | apply pw_below_drewN | apply below_drew1)))).mono ?_; rintro r w6 ⟨rfl, hb6⟩; have HCB : Aside0 (Below WB.heap.size WB w6) := Aside0.mk (Below.trans (by repeat (first | exact HT3.out.bel | apply below_alloc | apply pw_below_drewN | apply below_drew1)) (hb6.mono (Below.size (by repeat (first | exact HT3.out.bel | apply below_alloc | apply pw_below_drewN | apply below_drew1))))); have HDB : Aside0 (TX WB q w6 (addL (sided k) [word k] (Lib.decDigits s))) := Aside0.mk (TX.below (HT3.out.below (by repeat (first | exact Below.refl _ _ | apply below_alloc | apply pw_below_drewN | apply below_drew1))) hb6); clear hb6) | (go_at_call 34; refine (add_calls (xs := (addL (sided k) [word k] (Lib.decDigits s))) (HDB.out.below (by repeat (first | exact Below.refl _ _ | apply below_alloc | apply pw_below_drewN | apply below_drew1))) (Nat.le_trans (Nat.le_trans (addL_len _ _ _) (Nat.succ_le_succ (Nat.le_refl 1))) (by decide)) (hasN k) (Lib.decDigits n.toNat)).mono ?_; rintro r w7 ⟨rfl, ht7⟩; have HT4 : Aside0 (TX WB q w7 (addL (hasN k) (addL (sided k) [word k] (Lib.decDigits s)) (Lib.decDigits n.toNat))) := Aside0.mk ht7; clear ht7))
              all_goals (go_wp2_with fail)
              all_goals go_meet
              all_goals exact Aside0.mk (HT4.out.below (by repeat (first | exact Below.refl _ _ | apply below_alloc | apply pw_below_drewN | apply below_drew1)))
            case rest =>
              have HT4 := hcut
              clear hcut hh hx HT3
              go_upto_region 13 with fail
              have hh : wc.cell? ⟨w.heap.size + 1 + 1, 2, none⟩ = some (.bool (k0 k)) := HFH.out 2 _ HT4.out.bel
              have hx : wc.cell? ⟨w.heap.size, 3, none⟩ = some (.int .u32 d) := HFX.out 3 _ HT4.out.bel
              have hw2 : IntKind.u64.wrap (d : Int) = d := IntWalk.u64_in _ (by omega)
              go_cut [] (fun wc => Aside0 (TX WB q wc (addL (k0 k) (addL (hasN k) (addL (sided k) [word k] (Lib.decDigits s)) (Lib.decDigits n.toNat)) (Lib.decDigits d))))
              case first =>
                go_region_held3 (fun w' => w'.cell? ⟨w.heap.size + 1 + 1, 2, none⟩ = some (.bool (k0 k)) ∧ w'.cell? ⟨w.heap.size, 3, none⟩ = some (.int .u32 d)) (exact ⟨HFH.out 2 _ (by repeat (first | exact HT5.out.bel | exact HCC.out | exact HT4.out.bel | apply below_alloc | apply pw_below_drewN | apply below_drew1)), HFX.out 3 _ (by repeat (first | exact HT5.out.bel | exact HCC.out | exact HT4.out.bel | apply below_alloc | apply pw_below_drewN | apply below_drew1))⟩) (first | (go_at_call 36; refine (format_calls d (by omega) _ (Env.pow10 (HEV.out _ (by repeat (first | exact HT4.out.bel | apply below_alloc | apply pw_below_drewN | apply below_drew1))))).mono ?_; rintro r w6 ⟨rfl, hb6⟩; have HCC : Aside0 (Below WB.heap.size WB w6) := Aside0.mk (Below.trans (by repeat (first | exact HT4.out.bel | apply below_alloc | apply pw_below_drewN | apply below_drew1)) (hb6.mono (Below.size (by repeat (first | exact HT4.out.bel | apply below_alloc | apply pw_below_drewN | apply below_drew1))))); have HDC : Aside0 (TX WB q w6 (addL (hasN k) (addL (sided k) [word k] (Lib.decDigits s)) (Lib.decDigits n.toNat))) := Aside0.mk (TX.below (HT4.out.below (by repeat (first | exact Below.refl _ _ | apply below_alloc | apply pw_below_drewN | apply below_drew1))) hb6); clear hb6) | (go_at_call 34; refine (add_calls (xs := (addL (hasN k) (addL (sided k) [word k] (Lib.decDigits s)) (Lib.decDigits n.toNat))) (HDC.out.below (by repeat (first | exact Below.refl _ _ | apply below_alloc | apply pw_below_drewN | apply below_drew1))) (Nat.le_trans (Nat.le_trans (addL_len _ _ _) (Nat.succ_le_succ (Nat.le_trans (addL_len _ _ _) (Nat.succ_le_succ (Nat.le_refl 1))))) (by decide)) (k0 k) (Lib.decDigits d)).mono ?_; rintro r w7 ⟨rfl, ht7⟩; have HT5 : Aside0 (TX WB q w7 (addL (k0 k) (addL (hasN k) (addL (sided k) [word k] (Lib.decDigits s)) (Lib.decDigits n.toNat)) (Lib.decDigits d))) := Aside0.mk ht7; clear ht7))
                all_goals (go_wp2_with fail)
                all_goals go_meet
                all_goals exact Aside0.mk (HT5.out.below (by repeat (first | exact Below.refl _ _ | apply below_alloc | apply pw_below_drewN | apply below_drew1)))
              case rest =>
                have HT5 := hcut
                clear hcut hh hx HT4
                go_upto_region 14 with fail
                have hh : wc.cell? ⟨w.heap.size + 1 + 1, 3, none⟩ = some (.bool (k7 k)) := HFH.out 3 _ HT5.out.bel
                go_cut [] (fun wc => Aside0 (TX WB q wc (addL (k7 k) (addL (k0 k) (addL (hasN k) (addL (sided k) [word k] (Lib.decDigits s)) (Lib.decDigits n.toNat)) (Lib.decDigits d)) (oneD e))))
                case first =>
                  go_wp2_with (go_at_call 34; refine (add_calls (xs := (addL (k0 k) (addL (hasN k) (addL (sided k) [word k] (Lib.decDigits s)) (Lib.decDigits n.toNat)) (Lib.decDigits d))) (HT5.out.below (by repeat (first | exact Below.refl _ _ | apply below_alloc | apply pw_below_drewN | apply below_drew1))) (Nat.le_trans (Nat.le_trans (addL_len _ _ _) (Nat.succ_le_succ (Nat.le_trans (addL_len _ _ _) (Nat.succ_le_succ (Nat.le_trans (addL_len _ _ _) (Nat.succ_le_succ (Nat.le_refl 1))))))) (by decide)) (k7 k) (oneD e)).mono ?_; rintro r w7 ⟨rfl, ht7⟩; have HT6 : Aside0 (TX WB q w7 (addL (k7 k) (addL (k0 k) (addL (hasN k) (addL (sided k) [word k] (Lib.decDigits s)) (Lib.decDigits n.toNat)) (Lib.decDigits d)) (oneD e))) := Aside0.mk ht7; clear ht7)
                  all_goals (go_wp2_with fail)
                  all_goals go_meet
                  all_goals exact Aside0.mk (HT6.out.below (by repeat (first | exact Below.refl _ _ | apply below_alloc | apply pw_below_drewN | apply below_drew1)))
                case rest =>
                  have HT6 := hcut
                  clear hcut hh HT5
                  go_upto_region 15 with fail
                  have hh : wc.cell? ⟨w.heap.size + 1 + 1, 4, none⟩ = some (.bool (k9 k)) := HFH.out 4 _ HT6.out.bel
                  have hx : wc.cell? ⟨w.heap.size, 5, none⟩ = some (.string (str p)) := HFX.out 5 _ HT6.out.bel
                  go_cut [] (fun wc => Aside0 (TX WB q wc (addL (k9 k) (addL (k7 k) (addL (k0 k) (addL (hasN k) (addL (sided k) [word k] (Lib.decDigits s)) (Lib.decDigits n.toNat)) (Lib.decDigits d)) (oneD e)) p)))
                  case first =>
                    go_wp2_with (go_at_call 34; refine (add_calls (xs := (addL (k7 k) (addL (k0 k) (addL (hasN k) (addL (sided k) [word k] (Lib.decDigits s)) (Lib.decDigits n.toNat)) (Lib.decDigits d)) (oneD e))) (HT6.out.below (by repeat (first | exact Below.refl _ _ | apply below_alloc | apply pw_below_drewN | apply below_drew1))) (Nat.le_trans (Nat.le_trans (addL_len _ _ _) (Nat.succ_le_succ (Nat.le_trans (addL_len _ _ _) (Nat.succ_le_succ (Nat.le_trans (addL_len _ _ _) (Nat.succ_le_succ (Nat.le_trans (addL_len _ _ _) (Nat.succ_le_succ (Nat.le_refl 1))))))))) (by decide)) (k9 k) p).mono ?_; rintro r w7 ⟨rfl, ht7⟩; have HT7 : Aside0 (TX WB q w7 (addL (k9 k) (addL (k7 k) (addL (k0 k) (addL (hasN k) (addL (sided k) [word k] (Lib.decDigits s)) (Lib.decDigits n.toNat)) (Lib.decDigits d)) (oneD e)) p)) := Aside0.mk ht7; clear ht7)
                    all_goals (go_wp2_with fail)
                    all_goals go_meet
                    all_goals exact Aside0.mk (HT7.out.below (by repeat (first | exact Below.refl _ _ | apply below_alloc | apply pw_below_drewN | apply below_drew1)))
                  case rest =>
                    have HT7 := hcut
                    clear hcut hh hx HT6
                    go_upto_region 16 with fail
                    have hh : wc.cell? ⟨w.heap.size + 1 + 1, 5, none⟩ = some (.bool (hasD k)) := HFH.out 5 _ HT7.out.bel
                    have hx : wc.cell? ⟨w.heap.size, 6, none⟩ = some (.slice dA dat.length dc) := HFX.out 6 _ HT7.out.bel
                    go_cut [] (fun wc => Aside0 (TX WB q wc (addL (hasD k) (addL (k9 k) (addL (k7 k) (addL (k0 k) (addL (hasN k) (addL (sided k) [word k] (Lib.decDigits s)) (Lib.decDigits n.toNat)) (Lib.decDigits d)) (oneD e)) p) (hexP dat))))
                    case first =>
                      go_region_held3 (fun w' => w'.cell? ⟨w.heap.size + 1 + 1, 5, none⟩ = some (.bool (hasD k)) ∧ w'.cell? ⟨w.heap.size, 6, none⟩ = some (.slice dA dat.length dc)) (exact ⟨HFH.out 5 _ (by repeat (first | exact HT8.out.bel | exact HCF.out | exact HT7.out.bel | apply below_alloc | apply pw_below_drewN | apply below_drew1)), HFX.out 6 _ (by repeat (first | exact HT8.out.bel | exact HCF.out | exact HT7.out.bel | apply below_alloc | apply pw_below_drewN | apply below_drew1))⟩) (first | (go_at_call 37; refine (hex_calls (l := dat) hdl _ (HBY.out _ (by repeat (first | exact HT7.out.bel | apply below_alloc | apply pw_below_drewN | apply below_drew1)))).mono ?_; rintro r w6 ⟨rfl, hb6⟩; have HCF : Aside0 (Below WB.heap.size WB w6) := Aside0.mk (Below.trans (by repeat (first | exact HT7.out.bel | apply below_alloc | apply pw_below_drewN | apply below_drew1)) (hb6.mono (Below.size (by repeat (first | exact HT7.out.bel | apply below_alloc | apply pw_below_drewN | apply below_drew1))))); have HDF : Aside0 (TX WB q w6 (addL (k9 k) (addL (k7 k) (addL (k0 k) (addL (hasN k) (addL (sided k) [word k] (Lib.decDigits s)) (Lib.decDigits n.toNat)) (Lib.decDigits d)) (oneD e)) p)) := Aside0.mk (TX.below (HT7.out.below (by repeat (first | exact Below.refl _ _ | apply below_alloc | apply pw_below_drewN | apply below_drew1))) hb6); clear hb6) | (go_at_call 34; refine (add_calls (xs := (addL (k9 k) (addL (k7 k) (addL (k0 k) (addL (hasN k) (addL (sided k) [word k] (Lib.decDigits s)) (Lib.decDigits n.toNat)) (Lib.decDigits d)) (oneD e)) p)) (HDF.out.below (by repeat (first | exact Below.refl _ _ | apply below_alloc | apply pw_below_drewN | apply below_drew1))) (Nat.le_trans (Nat.le_trans (addL_len _ _ _) (Nat.succ_le_succ (Nat.le_trans (addL_len _ _ _) (Nat.succ_le_succ (Nat.le_trans (addL_len _ _ _) (Nat.succ_le_succ (Nat.le_trans (addL_len _ _ _) (Nat.succ_le_succ (Nat.le_trans (addL_len _ _ _) (Nat.succ_le_succ (Nat.le_refl 1))))))))))) (by decide)) (hasD k) (hexP dat)).mono ?_; rintro r w7 ⟨rfl, ht7⟩; have HT8 : Aside0 (TX WB q w7 (addL (hasD k) (addL (k9 k) (addL (k7 k) (addL (k0 k) (addL (hasN k) (addL (sided k) [word k] (Lib.decDigits s)) (Lib.decDigits n.toNat)) (Lib.decDigits d)) (oneD e)) p) (hexP dat))) := Aside0.mk ht7; clear ht7))
                      all_goals (go_wp2_with fail)
                      all_goals go_meet
                      all_goals exact Aside0.mk (HT8.out.below (by repeat (first | exact Below.refl _ _ | apply below_alloc | apply pw_below_drewN | apply below_drew1)))
                    case rest =>
                      have HT8 := hcut
                      clear hcut hh hx HT7
                      rw [addL_fields] at HT8
                      obtain ⟨tv, tb, tR⟩ := HT8.out.row
                      have hlist : wc.cell? ⟨q, 0, none⟩ = some tv := blk_cell tb 0
                      have hlf : (fields ⟨k, s, n, d, e, p, dat⟩).length ≤ 100 := by
                        rw [← addL_fields]
                        exact Nat.le_trans (Nat.le_trans (addL_len _ _ _) (Nat.succ_le_succ (Nat.le_trans (addL_len _ _ _) (Nat.succ_le_succ (Nat.le_trans (addL_len _ _ _) (Nat.succ_le_succ (Nat.le_trans (addL_len _ _ _) (Nat.succ_le_succ (Nat.le_trans (addL_len _ _ _) (Nat.succ_le_succ (Nat.le_trans (addL_len _ _ _) (Nat.succ_le_succ (Nat.le_refl 1))))))))))))) (by decide)
                      obtain ⟨gb, gc, rfl, gh1, gh2, _⟩ := Kd.R_form tR (by simp [fields])
                      have HTR := Aside0.mk tR
                      clear tb tR
                      have eres : res = Lib.join (((fields ⟨k, s, n, d, e, p, dat⟩).map str).map (·.data.toList)) [32] := by
                        rw [HRES.out, List.map_map, show ((fun x : ByteArray => x.data.toList) ∘ str) = id from rfl, List.map_id, join_eq]
                        exact if_pos ⟨H1.out, H2.out, H3.out, H4.out, fun h => by
                          have h0 := HGD.out
                          have hk9 : k9 k = true := by simpa [k9] using h
                          rw [hk9, Bool.true_and] at h0
                          exact Decidable.not_not.1 (of_decide_eq_false h0)⟩
                      have hjl : (Lib.join (((fields ⟨k, s, n, d, e, p, dat⟩).map str).map (·.data.toList)) [32]).length ≤ 140737488355328 := by
                        rw [List.map_map, show ((fun x : ByteArray => x.data.toList) ∘ str) = id from rfl, List.map_id, join_eq]
                        have h1 := joinc_len 32 3000000 _ (fields_len (k := k) (e := e) (by omega : s < 256) H4.out hd hp hdl)
                        have h2 := Nat.mul_le_mul_right (3000000 + 1) hlf
                        omega
                      have HRS := Aside0.mk eres
                      clear eres
                      generalize hfs : fields ⟨k, s, n, d, e, p, dat⟩ = fs at *
                      have hcells : ∀ (j : Nat) x, (fs.map str)[j]? = some x → wc.cell? ⟨gb, 0 + j, none⟩ = some (.string x) := by
                        intro j x hj
                        obtain ⟨hjl, hjx⟩ := List.getElem?_eq_some_iff.1 hj
                        have h0 := (Kd.R_cell (str []) HTR.out j (by omega) (by omega)).1
                        have ej : (j : Int).toNat = j := by omega
                        rw [ej] at h0
                        rw [Nat.zero_add, h0]
                        unfold rdOf
                        rw [ej, ← hjx, List.getD_eq_getElem?_getD, List.getElem?_eq_getElem hjl]
                        rfl
                      have HCL := Aside0.mk hcells
                      clear hcells hfs
                      have HNL := Aside0.mk hjl
                      clear hjl
                      rw [List.length_map] at hlist HTR
                      have hcap : fs.length ≤ gc := (Kd.R_reads' HTR.out).2.1
                      have HJ := Tryd.strings_Join gb 0 gc (fs.map str) ⟨#[32]⟩ wc HCL.out gh2 (by rw [List.length_map]; omega) (by rw [List.length_map]; exact hcap) HNL.out
                      rw [List.length_map] at HJ
                      have HJA := Aside0.mk HJ
                      clear HJ
                      go_wp2_with fail
                      refine HJA.out.mono ?_
                      rintro r w9 ⟨rfl, hb9⟩
                      go_wp2_with fail
                      go_ret
                      rw [HRS.out]
                      exact ⟨by rw [List.map_map]; rfl, HWB.out.trans ((HT8.out.bel.trans (hb9.mono HT8.out.bel.size)).mono HWB.out.size)⟩
end Go.Proofs.YtfjjikabinelgaaDoor
namespace Go.Proofs.YtfjjikabinelgaaDoor
open Go.RowKit Go.Maps Go.Proofs Go.Proofs.YtfjjikabinelgaaDoorW.PrintWords Go.Proofs.YtfjjikabinelgaaDoorW.PrintLast Go.Proofs.YtfjjikabinelgaaDoorW.PrintMore Sc PScriptLines
set_option linter.unusedVariables false
set_option linter.unusedSimpArgs false

theorem C_cells {w : World} {ad : Addr} {xs : List (List UInt8)} (h : Kd.C Kd.string w (some ad) (xs.map str).length (xs.map str)) (k : Nat) (hk : k < xs.length) : w.cell? (ad.add k) = some (.string (str xs[k])) := by
  obtain ⟨ad', cs, e, _, hK, hc⟩ := Kd.C_get h (str []) (k : Int) (by omega) (by rw [List.length_map]; omega)
  injection e with e
  subst e
  have ek : (k : Int).toNat = k := by omega
  obtain rfl : cs = [.string ((xs.map str).getD (k : Int).toNat (str []))] := hK
  have h0 := hc 0 _ rfl
  rw [show (k : Int).toNat * Kd.string.sz + 0 = k from by show (k : Int).toNat * 1 + 0 = k; omega, ek] at h0
  rw [h0, List.getD_eq_getElem?_getD, List.getElem?_map, List.getElem?_eq_getElem hk]
  rfl

/-- Lines' round: done, k lines behind. -/
structure LL (w : World) (N : Nat) (ls : List (List UInt8)) (done : List Stp) (k : Nat) (v : Value) (wr : World) : Prop where
  out : Kd.R k33 33 wr w.heap.size (fun j => N ≤ j) v (done.map s33)
  bel : Below w.heap.size w wr
  le : k ≤ ls.length
  len : done.length ≤ k
  all : linesP 0 ls = (done ++ (linesP k (ls.drop k)).1, (linesP k (ls.drop k)).2)

theorem LL.skip {w wr w2 : World} {N : Nat} {ls : List (List UInt8)} {done : List Stp} {k : Nat} {v : Value} (H : LL w N ls done k v wr) (hk : k < ls.length) (h : ls[k] = [] ∨ (ls[k]).head? = some 35) (hb : Below wr.heap.size wr w2) : LL w N ls done (k + 1) v w2 := by
  refine ⟨Kd.R_below H.out hb, H.bel.trans (hb.mono H.bel.size), hk, by have := H.len; omega, ?_⟩
  have ha := H.all
  rw [List.drop_eq_getElem_cons hk, linesP, if_pos h] at ha
  exact ha
theorem LL.stop {w wr : World} {N : Nat} {ls : List (List UInt8)} {done : List Stp} {k : Nat} {v : Value} (H : LL w N ls done k v wr) (hk : k < ls.length) (h : ¬ (ls[k] = [] ∨ (ls[k]).head? = some 35)) (hp : parseS ls[k] = none) : linesP 0 ls = (done, k + 1) := by
  have ha := H.all
  rw [List.drop_eq_getElem_cons hk, linesP, if_neg h, hp] at ha
  rw [ha, List.append_nil]
theorem LL.next {w wr w2 : World} {N : Nat} {ls : List (List UInt8)} {done : List Stp} {k : Nat} {v v1 : Value} {x : Stp} (H : LL w N ls done k v wr) (hk : k < ls.length) (h : ¬ (ls[k] = [] ∨ (ls[k]).head? = some 35)) (hp : parseS ls[k] = some x)
    (hR : Kd.R k33 33 w2 w.heap.size (fun j => N ≤ j) v1 (done.map s33 ++ [s33 x])) (hb : Below w.heap.size w w2) : LL w N ls (done ++ [x]) (k + 1) v1 w2 := by
  refine ⟨by rw [List.map_append]; exact hR, hb, hk, by have := H.len; simp; omega, ?_⟩
  have ha := H.all
  rw [List.drop_eq_getElem_cons hk, linesP, if_neg h, hp] at ha
  rw [ha, List.append_assoc]
  rfl
theorem LL.end_ {w wr : World} {N : Nat} {ls : List (List UInt8)} {done : List Stp} {v : Value} (H : LL w N ls done ls.length v wr) : linesP 0 ls = (done, 0) := by
  have ha := H.all
  rw [List.drop_length, linesP, List.append_nil] at ha
  exact ha

def LinesP (w : World) (r : List Stp × Nat) (e : Ending) (w' : World) : Prop :=
  ∃ v, e = .returned (.tuple #[v, .int .i64 r.2, .int .i64 (if r.2 = 0 then 0 else 60)]) ∧ Below w.heap.size w w' ∧ Kd.R k33 33 w' w.heap.size (fun _ => True) v (r.1.map s33)

set_option maxHeartbeats 4000000 in
set_option maxRecDepth 100000 in
theorem lines_calls (l : List UInt8) (hl : l.length ≤ 65536) (w : World) (he : Env w) :
    Calls Tryd.prog 17 #[.string (str l)] w fun e w' => LinesP w (linesP 0 (spl 10 l)) e w' := by
  have HE := Aside0.mk he
  have hsz : ¬ (65536 : Int) < l.length := by omega
  have hcnt : (spl 10 l).length ≤ 65537 := by
    have h1 := spl_len 10 l
    have h2 : l.count 10 ≤ l.length := List.count_le_length
    omega
  have HSM : Aside0 (∀ s ∈ spl 10 l, s.length ≤ 1000000) := Aside0.mk (fun s hs => Nat.le_trans (spl_small 10 l s hs) (by omega))
  clear he
  go_enter Tryd.func17, Tryd.ntmps17
  go_wp2_with fail
  refine (split_named 10 l (by omega) _ HE.out).mono ?_
  rintro e w1 ⟨b1, rfl, hb1, hs1, hC1⟩
  have HB1 := Aside0.mk hb1
  have HC1 := Aside0.mk hC1
  clear hb1 hC1 hsz
  generalize hls : spl 10 l = ls at *
  have HLS := Aside0.mk hls
  clear hls
  go_wp2_with fail
  go_loopw [5, 6, 7, 8, 9, 16] (fun v _ _ _ _ i wr => ∃ done k A c, v = .slice A done.length c ∧ i = .int .i64 (k : Nat) ∧ k ≤ ls.length ∧ Aside0 (LL w w1.heap.size ls done k v wr) ∧ Aside0 (Below w1.heap.size w1 wr)) (fun _ _ _ _ _ i _ => ls.length - (intOf i).toNat)
  case atStart => exact ⟨[], 0, none, 0, rfl, rfl, Nat.zero_le _, Aside0.mk ⟨Kd.R_nil _ _ _ _ _, HB1.out, Nat.zero_le _, Nat.le_refl _, by simp⟩, Aside0.mk (Below.refl _ _)⟩
  case round =>
    obtain ⟨done, k, vA, vc, rfl, rfl, hk, HL, HW⟩ := hrel
    by_cases hlt : k < ls.length
    · have hcell : wr.cell? ⟨b1, k, none⟩ = some (.string (str ls[k])) := by
        have h0 := C_cells HC1.out k hlt
        rw [add_plain] at h0
        exact pw_cell_below HW.out h0
      cases hx : ls[k] with
      | nil =>
        have HSK : Aside0 (ls[k] = [] ∨ (ls[k]).head? = some 35) := Aside0.mk (Or.inl hx)
        rw [hx] at hcell
        clear hx
        have e1 : (str []).toList = [] := str_toList []
        go_wp2_with fail
        go_roundw
        case rel => exact ⟨done, k + 1, vA, vc, rfl, by simp, hlt, Aside0.mk (HL.out.skip hlt HSK.out (Below.refl _ _)), HW⟩
        case measure => simp [intOf]; omega
      | cons x r =>
        rw [hx] at hcell
        have HX := Aside0.mk hx
        clear hx
        have e1 : (str (x :: r)).toList = x :: r := str_toList _
        have e2 : (str (x :: r)).size = (x :: r).length := rfl
        have ga : (str (x :: r))[0]'(by rw [e2]; simp) = x := rfl
        by_cases h35 : x = 35
        · subst h35
          go_wp2_with fail
          go_roundw
          case rel => exact ⟨done, k + 1, vA, vc, rfl, by simp, hlt, Aside0.mk (HL.out.skip hlt (by rw [HX.out]; exact Or.inr rfl) (Below.refl _ _)), HW⟩
          case measure => simp [intOf]; omega
        · have hq : ((x.toNat : Int) == 35) = false := by
            rw [beq_eq_false_iff_ne]
            intro h
            exact h35 (UInt8.toNat_inj.1 (by show x.toNat = 35; omega))
          have HNO : Aside0 (¬ (ls[k] = [] ∨ (ls[k]).head? = some 35)) := Aside0.mk (by
            rw [HX.out]
            rintro (h | h)
            · cases h
            · exact h35 (by simpa using h))
          clear h35
          have hxl : (x :: r).length ≤ 1000000 := by
            rw [← HX.out]
            exact HSM.out _ (List.getElem_mem hlt)
          go_wp2_with fail
          refine (parse_calls (x :: r) hxl wr (HE.out.below (HB1.out.trans (HW.out.mono HB1.out.size)))).mono ?_
          rintro e w2 ⟨cs, rfl, hM, hb2⟩
          have HM := Aside0.mk hM
          have HB2 := Aside0.mk hb2
          obtain ⟨v6, rfl, h6⟩ := k33_openM hM
          obtain ⟨A6, c6, rfl⟩ := Kd.R_slice h6
          clear hM hb2 h6
          cases hpr : parseS (x :: r) with
          | none =>
            rw [hpr] at HM
            have HST := Aside0.mk (HL.out.stop hlt HNO.out (by rw [HX.out]; exact hpr))
            clear hpr
            go_wp2_with fail
            refine bodyPost_ret (v := .tuple #[.slice vA done.length vc, .int .i64 ((k + 1 : Nat) : Int), .int .i64 60]) (by first | (simp [results, Tryd.results17, go_sem]; done) | (simp [results, Tryd.results17, go_sem]; rfl)) rfl ?_
            rw [HLS.out, HST.out]
            exact ⟨_, rfl, HL.out.bel.trans ((HB2.out.alloc HB2.out.size _).mono HL.out.bel.size), Kd.R_mono (Kd.R_below HL.out.out (HB2.out.alloc HB2.out.size _)) (fun _ _ => trivial)⟩
          | some st =>
            rw [hpr] at HM
            have HNX := Aside0.mk hpr
            clear hpr
            have HM2 := Aside0.mk (k33.M_lower HL.out.bel.size (k33.M_bound HM.out))
            dsimp only [Option.getD_some] at HM2
            go_wp2_with (at_builtin; refine Kd.R_append k33 (w0 := w) w.heap.size rfl (.tmp 39) (.tmp 41) 25 33 (.agg zero33) 64 rfl Tryd.underlying25 info33 rfl (by decide) (by decide) (.slice vA done.length vc) (done.map s33) (s33 st) _ (fun j => w1.heap.size ≤ j) _ rfl (by first | rfl | (go_simp; done) | (simp; done)) (k33.M_move (fun k hk => Below.heap_alloc _ _ _ hk.2.2.1) HM2.out) ?aK (fun j hj => by have h1 := HW.out.size; have h2 := HB2.out.size; simp at hj; omega) (Kd.R_below HL.out.out (HB2.out.alloc HB2.out.size _)) (HL.out.bel.trans ((HB2.out.alloc HB2.out.size _).mono HL.out.bel.size)) (HL.out.bel.trans ((HB2.out.alloc HB2.out.size _).mono HL.out.bel.size)).size (by rw [List.length_map]; have := HL.out.len; omega) ?_; (case aK => intro k hk; have h1 := hk.2.1; have h2 := Kd.R_lt HL.out.out; have h3 := HW.out.size; exact ⟨by omega, fun e => by have := h2 k e.symm; omega⟩); intro v1 w3 hR3 hb3 hg3 hat3)
            have HW3 : Below w1.heap.size w1 w3 := (HW.out.trans ((HB2.out.alloc HB2.out.size _).mono HW.out.size)).grown hg3 (by have h1 := HW.out.size; have h2 := HB2.out.size; simp; omega) (fun j hj => HL.out.out.1 j hj)
            obtain ⟨xA, xc, rfl⟩ := Kd.R_slice hR3
            have el : (done.map s33 ++ [s33 st]).length = done.length + 1 := by simp
            rw [el] at hR3 ⊢
            go_roundw
            case rel => exact ⟨done ++ [st], k + 1, xA, xc, by simp, by simp, hlt, Aside0.mk (HL.out.next hlt HNO.out (by rw [HX.out]; exact HNX.out) hR3 hb3), Aside0.mk HW3⟩
            case measure => simp [intOf]; omega
    · have ek : k = ls.length := by omega
      subst ek
      have HEND := Aside0.mk HL.out.end_
      clear hlt
      go_wp2_with fail
      refine bodyPost_ret (v := .tuple #[.slice vA done.length vc, .int .i64 ((0 : Nat) : Int), .int .i64 0]) (by first | (simp [results, Tryd.results17, go_sem]; done) | (simp [results, Tryd.results17, go_sem]; rfl)) rfl ?_
      rw [HLS.out, HEND.out]
      exact ⟨_, rfl, HL.out.bel, Kd.R_mono HL.out.out (fun _ _ => trivial)⟩
end Go.Proofs.YtfjjikabinelgaaDoor
namespace Go.Proofs.YtfjjikabinelgaaDoor
open Go.RowKit Go.Maps Go.Proofs Go.Proofs.YtfjjikabinelgaaDoorW.PrintWords Go.Proofs.YtfjjikabinelgaaDoorW.PrintLast Go.Proofs.YtfjjikabinelgaaDoorW.PrintMore Sc PScriptLines
set_option linter.unusedVariables false
set_option linter.unusedSimpArgs false

theorem dec1 : Lib.decDigits 1 = [49] := by rw [Lib.decDigits]; rfl
theorem dec2 : Lib.decDigits 2 = [50] := by rw [Lib.decDigits]; rfl
theorem dec3 : Lib.decDigits 3 = [51] := by rw [Lib.decDigits]; rfl

theorem aw_decode : Sc.decode 4096 [0, 5, 7, 1] = [⟨0, 0, 5, 7, false, [], []⟩, ⟨1, 0, 0, 0, false, [], []⟩] := by
  show Sc.decode (4093 + 1 + 1 + 1) [0, 5, 7, 1] = _
  simp [Sc.decode, Sc.step, stepK, one]

theorem aw_text : textP ⟨6, 1, 3, 0, false, [], []⟩ = [99, 114, 97, 115, 104, 32, 49, 32, 51, 32, 45] := by
  unfold textP
  rw [if_pos (by decide)]
  simp [fields, fSide, fN, fDraw, fDone, fPath, fData, sided, hasN, hasD, word, dec1, dec3, joinc, hexP]
theorem aw_canon : Canon ⟨6, 1, 3, 0, false, [], []⟩ := ⟨by decide, by decide, by decide, by decide, by decide, by decide, by decide⟩
theorem aw_parse : parseS [99, 114, 97, 115, 104, 32, 49, 32, 51, 32, 45] = some ⟨6, 1, 3, 0, false, [], []⟩ := by
  rw [← aw_text]
  exact parseS_mk (by decide) aw_canon
theorem aw_text2 : textP ⟨0, 0, 1, 2, false, [], []⟩ = [116, 105, 99, 107, 32, 49, 32, 50] := by
  unfold textP
  rw [if_pos (by decide)]
  simp [fields, fSide, fN, fDraw, fDone, fPath, fData, sided, hasN, hasD, word, dec1, dec2, joinc, hexP]
theorem aw_parse2 : parseS [116, 105, 99, 107, 32, 49, 32, 50] = some ⟨0, 0, 1, 2, false, [], []⟩ := by
  rw [← aw_text2]
  exact parseS_mk (by decide) ⟨by decide, by decide, by decide, by decide, by decide, by decide, by decide⟩
theorem aw_parse3 : parseS [120] = none := by
  have h : kindOf (nextP (spl 32 [120], false)).1 = none := by decide
  unfold parseS
  rw [h]
theorem aw_lines : linesP 0 (spl 10 [35, 32, 97, 10, 10, 116, 105, 99, 107, 32, 49, 32, 50, 10, 120]) = ([⟨0, 0, 1, 2, false, [], []⟩], 4) := by
  have h : spl 10 [35, 32, 97, 10, 10, 116, 105, 99, 107, 32, 49, 32, 50, 10, 120] = [[35, 32, 97], [], [116, 105, 99, 107, 32, 49, 32, 50], [120]] := by decide
  rw [h]
  simp [linesP, aw_parse2, aw_parse3]

theorem aw_by (w : World) : By (w.alloc (.cells #[.int .u8 0, .int .u8 5, .int .u8 7, .int .u8 1] 5)) (.slice (some ⟨w.heap.size, 0, none⟩) 4 4) [0, 5, 7, 1] := by
  refine ⟨_, 4, rfl, Nat.le_refl _, Kd.C_of_reads (d := (0 : Int)) ⟨rfl, by decide, fun _ => ⟨_, rfl, fun j hj => ?_⟩⟩⟩
  have hb : (w.alloc (.cells #[.int .u8 0, .int .u8 5, .int .u8 7, .int .u8 1] 5)).heap[w.heap.size]? = some (.cells #[.int .u8 0, .int .u8 5, .int .u8 7, .int .u8 1] 5 (0, 0)) := heap_alloc_new w _
  have hj4 : j < 4 := hj
  rw [add_plain, blk_cell hb]
  have : j = 0 ∨ j = 1 ∨ j = 2 ∨ j = 3 := by omega
  rcases this with rfl | rfl | rfl | rfl <;> rfl

/-- The cells of the steps that awake asks for. -/
theorem aw_cells {w : World} {base : Nat} {ok : Nat → Prop} {A : Option Addr} {c : Nat} {xs : List Stp} (h : Kd.R k33 33 w base ok (.slice A (xs.map s33).length c) (xs.map s33)) (hx : 0 < xs.length) :
    ∃ b, A = some ⟨b, 0, none⟩ ∧ ∀ (k : Nat) (hk : k < xs.length), w.cell? ⟨b, k * 7, none⟩ = some (.int .u8 xs[k].kind) ∧ w.cell? ⟨b, k * 7 + 1, none⟩ = some (.int .u8 xs[k].side) ∧ w.cell? ⟨b, k * 7 + 2, none⟩ = some (.int .i64 xs[k].n) ∧ w.cell? ⟨b, k * 7 + 3, none⟩ = some (.int .u32 xs[k].draw) ∧ w.cell? ⟨b, k * 7 + 4, none⟩ = some (.bool xs[k].done) ∧ w.cell? ⟨b, k * 7 + 5, none⟩ = some (.string (str xs[k].path)) := by
  obtain ⟨g, cap, e, _⟩ := Kd.R_form h (by rw [List.length_map]; exact hx)
  injection e with e1 e2 e3
  subst e1
  refine ⟨g, rfl, fun k hk => ?_⟩
  have hC := (Kd.R_reads' h).2.2
  obtain ⟨ad, A6, c6, ea, h0, h1, h2, h3, h4, h5, _⟩ := at_T33 hC (k : Int) (by omega) (by rw [List.length_map]; omega)
  injection ea with ea
  subst ea
  have ek : (k : Int).toNat = k := by omega
  have er : rd_T33 (xs.map s33) (k : Int) = s33 xs[k] := by
    unfold rd_T33
    rw [ek, List.getD_eq_getElem?_getD, List.getElem?_map, List.getElem?_eq_getElem hk]
    rfl
  rw [er, ek, add_plain] at h0
  rw [er, ek, add_plain] at h1 h2 h3 h4 h5
  simp only [Nat.zero_add] at h0 h1 h2 h3 h4 h5
  exact ⟨h0, h1, h2, h3, h4, h5⟩

theorem aw_decode_calls (w : World) : Calls Tryd.prog 10 #[.slice (some ⟨w.heap.size, 0, none⟩) 4 4] (w.alloc (.cells #[.int .u8 0, .int .u8 5, .int .u8 7, .int .u8 1] 5)) fun e w' => ∃ b c, e = .returned (.slice (some ⟨b, 0, none⟩) 2 c) ∧ Below w.heap.size w w' ∧
    w'.cell? ⟨b, 0, none⟩ = some (.int .u8 0) ∧ w'.cell? ⟨b, 2, none⟩ = some (.int .i64 5) ∧ w'.cell? ⟨b, 3, none⟩ = some (.int .u32 7) ∧ w'.cell? ⟨b, 7, none⟩ = some (.int .u8 1) ∧ w'.cell? ⟨b, 9, none⟩ = some (.int .i64 0) := by
  refine (decode_calls _ (aw_by w)).mono ?_
  rintro e w1 ⟨u, rfl, hb1, hR1⟩
  rw [aw_decode] at hR1
  obtain ⟨uA, uc, rfl⟩ := Kd.R_slice hR1
  obtain ⟨ub, rfl, hcl⟩ := aw_cells hR1 (by decide)
  have h0 := hcl 0 (by decide)
  have h1 := hcl 1 (by decide)
  exact ⟨ub, uc, rfl, ((Below.refl _ _).alloc (Nat.le_refl _) _).trans (hb1.mono (by simp)), h0.1, h0.2.2.1, h0.2.2.2.1, h1.1, h1.2.2.1⟩
theorem aw_parse_calls (w : World) (he : Env w) : Calls Tryd.prog 12 #[.string ⟨#[99, 114, 97, 115, 104, 32, 49, 32, 51, 32, 45]⟩] w fun e w' => ∃ A c, e = .returned (.tuple #[.agg #[.int .u8 6, .int .u8 1, .int .i64 3, .int .u32 0, .bool false, .string ⟨#[]⟩, .slice A 0 c], .int .i64 0]) ∧ Below w.heap.size w w' := by
  have hp := parse_calls [99, 114, 97, 115, 104, 32, 49, 32, 51, 32, 45] (by decide) w he
  rw [aw_parse] at hp
  refine hp.mono ?_
  rintro e w2 ⟨cs, rfl, hM, hb2⟩
  obtain ⟨v6, rfl, h6⟩ := k33_openM hM
  obtain ⟨A6, c6, rfl⟩ := Kd.R_slice h6
  exact ⟨A6, c6, rfl, hb2⟩
theorem aw_lines_calls (w : World) (he : Env w) : Calls Tryd.prog 17 #[.string ⟨#[35, 32, 97, 10, 10, 116, 105, 99, 107, 32, 49, 32, 50, 10, 120]⟩] w fun e w' => ∃ v, e = .returned (.tuple #[v, .int .i64 4, .int .i64 60]) ∧ Below w.heap.size w w' := by
  have hp := lines_calls [35, 32, 97, 10, 10, 116, 105, 99, 107, 32, 49, 32, 50, 10, 120] (by decide) w he
  rw [aw_lines] at hp
  refine hp.mono ?_
  rintro e w2 ⟨v, rfl, hb2, _⟩
  exact ⟨v, rfl, hb2⟩
theorem aw_text_calls (A : Option Addr) (c : Nat) (w : World) (he : Env w) : Calls Tryd.prog 14 #[.agg #[.int .u8 6, .int .u8 1, .int .i64 3, .int .u32 0, .bool false, .string ⟨#[]⟩, .slice A 0 c]] w fun e w' => e = .returned (.string ⟨#[99, 114, 97, 115, 104, 32, 49, 32, 51, 32, 45]⟩) ∧ Below w.heap.size w w' := by
  have ht := text_step (k := 6) (s := 1) (n := 3) (d := 0) (e := false) (p := []) (dat := []) (by decide) (by decide) (by decide) (by decide) (by decide) (by decide) (by decide) w (By.nil w A c) he
  rw [aw_text] at ht
  exact ht

set_option maxHeartbeats 4000000 in
set_option maxRecDepth 100000 in
theorem awake_calls (w : World) (he : Env w) : Calls Tryd.prog 8 #[] w fun e w' => e = .returned (.bool true) ∧ Below w.heap.size w w' := by
  have HE := Aside0.mk he
  clear he
  go_enter Tryd.func8, Tryd.ntmps8
  go_wp2_with fail
  refine (aw_decode_calls w).mono ?_
  rintro e w1 ⟨b, c, rfl, hb1, h0, h2, h3, h7, h9⟩
  have HB1 := Aside0.mk hb1
  have H0 := Aside0.mk h0
  have H2 := Aside0.mk h2
  have H3 := Aside0.mk h3
  have H7 := Aside0.mk h7
  have H9 := Aside0.mk h9
  clear hb1 h0 h2 h3 h7 h9
  go_wp2_with fail
  refine (aw_parse_calls w1 (HE.out.below HB1.out)).mono ?_
  rintro e w2 ⟨A6, c6, rfl, hb2⟩
  have HB2 := Aside0.mk hb2
  clear hb2
  go_wp2_with fail
  have HB2' : Aside0 (Below w.heap.size w (w2.alloc (.cells #[.int .u8 6, .int .u8 1, .int .i64 3, .int .u32 0, .bool false, .string ⟨#[]⟩, .slice A6 0 c6] 33))) := Aside0.mk ((HB1.out.trans (HB2.out.mono HB1.out.size)).alloc (Nat.le_trans HB1.out.size HB2.out.size) _)
  have HX : Aside0 ((w2.alloc (.cells #[.int .u8 6, .int .u8 1, .int .i64 3, .int .u32 0, .bool false, .string ⟨#[]⟩, .slice A6 0 c6] 33)).heap[w2.heap.size]? = some (.cells #[.int .u8 6, .int .u8 1, .int .i64 3, .int .u32 0, .bool false, .string ⟨#[]⟩, .slice A6 0 c6] 33 (0, 0))) := Aside0.mk (heap_alloc_new w2 _)
  have HB12 : Aside0 (Below w1.heap.size w1 (w2.alloc (.cells #[.int .u8 6, .int .u8 1, .int .i64 3, .int .u32 0, .bool false, .string ⟨#[]⟩, .slice A6 0 c6] 33))) := Aside0.mk (HB2.out.alloc HB2.out.size _)
  generalize w2.alloc (.cells #[.int .u8 6, .int .u8 1, .int .i64 3, .int .u32 0, .bool false, .string ⟨#[]⟩, .slice A6 0 c6] 33) = w3 at *
  refine (aw_lines_calls w3 (HE.out.below HB2'.out)).mono ?_
  rintro e w4 ⟨v4, rfl, hb4⟩
  have HB14 : Aside0 (Below w1.heap.size w1 w4) := Aside0.mk (HB12.out.trans (hb4.mono HB12.out.size))
  have HB4 : Aside0 (Below w.heap.size w w4) := Aside0.mk (HB2'.out.trans (hb4.mono HB2'.out.size))
  have hX4 : w4.heap[w2.heap.size]? = some (.cells #[.int .u8 6, .int .u8 1, .int .i64 3, .int .u32 0, .bool false, .string ⟨#[]⟩, .slice A6 0 c6] 33 (0, 0)) := (hb4.block _ (blk_lt HX.out)).trans HX.out
  have c0 := pw_cell_below HB14.out H0.out
  have c2 := pw_cell_below HB14.out H2.out
  have c3 := pw_cell_below HB14.out H3.out
  have c7 := pw_cell_below HB14.out H7.out
  have c9 := pw_cell_below HB14.out H9.out
  have x0 : w4.cell? ⟨w2.heap.size, 0, none⟩ = some (.int .u8 6) := blk_cell hX4 0
  have x1 : w4.cell? ⟨w2.heap.size, 1, none⟩ = some (.int .u8 1) := blk_cell hX4 1
  have x2 : w4.cell? ⟨w2.heap.size, 2, none⟩ = some (.int .i64 3) := blk_cell hX4 2
  have x3 : w4.cell? ⟨w2.heap.size, 3, none⟩ = some (.int .u32 0) := blk_cell hX4 3
  have x4 : w4.cell? ⟨w2.heap.size, 4, none⟩ = some (.bool false) := blk_cell hX4 4
  have x5 : w4.cell? ⟨w2.heap.size, 5, none⟩ = some (.string ⟨#[]⟩) := blk_cell hX4 5
  have x6 : w4.cell? ⟨w2.heap.size, 6, none⟩ = some (.slice A6 0 c6) := blk_cell hX4 6
  clear hX4 hb4
  go_wp2_with fail
  refine (aw_text_calls A6 c6 w4 (HE.out.below HB4.out)).mono ?_
  rintro e w5 ⟨rfl, hb5⟩
  have HB5 : Aside0 (Below w.heap.size w w5) := Aside0.mk (HB4.out.trans (hb5.mono HB4.out.size))
  clear c0 c2 c3 c7 c9 x0 x1 x2 x3 x4 x5 x6 hb5
  go_wp2_with fail
  go_ret
  exact ⟨rfl, HB5.out⟩
end Go.Proofs.YtfjjikabinelgaaDoor
