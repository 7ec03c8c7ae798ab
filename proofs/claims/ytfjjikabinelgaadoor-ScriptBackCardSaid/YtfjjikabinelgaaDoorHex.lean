/- Walks: bytes as digits; strings.Builder's WriteByte laid by hand. -/
import Derived.Test.YtfjjikabinelgaaDoorBytes
import Derived.Test.YtfjjikabinelgaaDoorPlainB
import Derived.Test.YtfjjikabinelgaaDoorLine
import Derived.Test.YtfjjikabinelgaaDoorShelf
import Derived.Shelf.Strings.Builder1
import Derived.Deep.DeepCutAuto
namespace Go.Proofs.YtfjjikabinelgaaDoor
open Go.RowKit Go.Maps Go.Proofs Go.Proofs.YtfjjikabinelgaaDoorW.PrintWords Go.Proofs.YtfjjikabinelgaaDoorW.PrintLast Go.Proofs.YtfjjikabinelgaaDoorW.PrintMore Sc PScriptLines
set_option linter.unusedVariables false
set_option linter.unusedSimpArgs false

def Tryd.lays167_ren : Go.Shelf.Ren := ⟨fun | 156 => 38 | 167 => 57 | 165 => 59 | 166 => 60 | 169 => 58 | 240 => 75 | 241 => 76 | 276 => 93 | 277 => 94 | n => n, fun | 31 => 59 | 9 => 9 | 3 => 3 | 4 => 4 | 0 => 0 | 20 => 20 | 72 => 104 | 76 => 107 | 70 => 102 | 37 => 22 | 75 => 95 | 127 => 119 | 164 => 133 | 5 => 5 | 80 => 66 | n => n, fun | n => n⟩
theorem Tryd.lays167 : Go.Proofs.Lays.n167 Tryd.prog Tryd.lays167_ren := {
  mixed := by kernel_rfl
  f167 := Tryd.func57.trans (congrArg some (by kernel_rfl))
  f240 := Tryd.func75.trans (congrArg some (by kernel_rfl))
  f276 := Tryd.func93.trans (congrArg some (by kernel_rfl))
  t0 := Tryd.underlying0
  a0 := Tryd.isAgg0
  z0 := Tryd.sizeOf0
  v0 := Tryd.zeroValue0
  t4 := Tryd.underlying4
  a4 := Tryd.isAgg4
  z4 := Tryd.sizeOf4
  v4 := Tryd.zeroValue4
  t5 := Tryd.underlying5
  a5 := Tryd.isAgg5
  z5 := Tryd.sizeOf5
  v5 := Tryd.zeroValue5
  t9 := Tryd.underlying9
  a9 := Tryd.isAgg9
  z9 := Tryd.sizeOf9
  v9 := Tryd.zeroValue9
  t20 := Tryd.underlying20
  a20 := Tryd.isAgg20
  z20 := Tryd.sizeOf20
  v20 := Tryd.zeroValue20
  t37 := Tryd.underlying22
  a37 := Tryd.isAgg22
  z37 := Tryd.sizeOf22
  v37 := Tryd.zeroValue22
  t70 := Tryd.underlying102
  a70 := Tryd.isAgg102
  z70 := Tryd.sizeOf102
  v70 := Tryd.zeroValue102
  t72 := Tryd.underlying104
  a72 := Tryd.isAgg104
  z72 := Tryd.sizeOf104
  v72 := Tryd.zeroValue104
  t75 := Tryd.underlying95
  a75 := Tryd.isAgg95
  z75 := Tryd.sizeOf95
  v75 := Tryd.zeroValue95
  t164 := Tryd.underlying133
  a164 := Tryd.isAgg133
  z164 := Tryd.sizeOf133
  v164 := Tryd.zeroValue133 }
theorem Tryd.Builder_Extra_167 : Builder.Extra Tryd.prog Tryd.lays167_ren := {
  sizeBuilder := by kernel_rfl
  liesBuilder := by kernel_rfl
  t5 := Tryd.underlying5
  a5 := Tryd.isAgg5
  z5 := Tryd.sizeOf5
  v5 := Tryd.zeroValue5
  infoByte := by kernel_rfl
  cellsByte := by kernel_rfl
  sizeByte := by kernel_rfl
  neB5 := by decide }

theorem wbyte_calls (B b : Nat) (bs : List Value) (c : Int) (w : World) (h : Lib.IsBuilder 104 5 B b bs w) (hlen : bs.length + 1 ≤ 140737488355328) (hBw : B ≤ w.heap.size) :
    Calls Tryd.prog 57 #[.pointer (some ⟨b, 0, none⟩), .int .u8 c] w fun e w' => e = .returned .nilIface ∧ (Lib.BuilderAt 104 5 B b (.pointer (some ⟨b, 0, none⟩)) (bs ++ [.int .u8 c]) w' ∧ Below B w w') := Any.Builder_WriteByte Tryd.lays167 Tryd.Builder_Extra_167 B b bs c w h hlen hBw

theorem By.cells {w : World} {A : Option Addr} {l : List UInt8} {c n : Nat} (h : By w (.slice A n c) l) (hl : l ≠ []) : n = l.length ∧ ∃ ad, A = some ad ∧ ∀ k (hk : k < l.length), w.cell? (ad.add k) = some (.int .u8 (l[k].toNat)) := by
  obtain ⟨A', c', e, hc, hr⟩ := h
  injection e with e1 e2 e3
  subst e1 e2
  refine ⟨rfl, ?_⟩
  have hpos : 0 < l.length := List.length_pos_iff.2 hl
  obtain ⟨ad, cs, e, _, _, _⟩ := Kd.C_get (n := l.length) hr (0 : Int) 0 (by omega) (by omega)
  refine ⟨ad, e, fun k hk => ?_⟩
  obtain ⟨ad', cs', e', _, hK, hc'⟩ := Kd.C_get (n := l.length) hr (0 : Int) k (by omega) (by omega)
  rw [e] at e'
  injection e' with e'
  subst e'
  obtain rfl : cs' = [.int .u8 ((ints l).getD (k : Int).toNat 0)] := hK
  have h0 := hc' 0 _ rfl
  rw [show (k : Int).toNat * (Kd.int .u8).sz + 0 = k from by show (k : Int).toNat * 1 + 0 = k; omega] at h0
  rw [h0]
  have : (k : Int).toNat = k := by omega
  rw [this]
  simp [ints, List.getD_eq_getElem?_getD, List.getElem?_eq_getElem hk]

theorem and15_all : ∀ n : Fin 256, bits BinOp.and IntKind.u8 ((n.val : Nat) : Int) 15 = ((n.val % 16 : Nat) : Int) := by decide +kernel
theorem and15 (x : UInt8) : bits BinOp.and IntKind.u8 (x.toNat : Int) 15 = ((x.toNat % 16 : Nat) : Int) := and15_all ⟨x.toNat, x.toNat_lt⟩
def digs : ByteArray := ⟨#[48, 49, 50, 51, 52, 53, 54, 55, 56, 57, 97, 98, 99, 100, 101, 102]⟩
theorem digs_all : ∀ n : Fin 16, digs[n.val]'(n.isLt) = hexd n.val := by decide
theorem digs_at (n : Nat) (h : n < 16) : (digs[n]'h) = hexd n := digs_all ⟨n, h⟩

set_option maxHeartbeats 2000000 in
theorem hex_calls {v : Value} {l : List UInt8} (hlen : l.length ≤ 1000000) (w : World) (h : By w v l) :
    Calls Tryd.prog 37 #[v] w fun e w' => e = .returned (.string (str (hexP l))) ∧ Below w.heap.size w w' := by
  have HB := Aside0.mk h
  obtain ⟨A, c, rfl, hc, hr⟩ := h
  clear hc hr
  by_cases hl : l = []
  · subst hl
    clear HB
    go_enter Tryd.func37, Tryd.ntmps37
    go_wp2
    go_ret
    exact ⟨rfl, Below.refl _ _⟩
  · obtain ⟨_, ad, rfl, hcell⟩ := HB.out.cells hl
    have ep : hexP l = hexb l := if_neg hl
    rw [ep]
    have hz : ((l.length : Int) == 0) = false := by
      have := List.length_pos_iff.2 hl
      rw [beq_eq_false_iff_ne]; omega
    have HC := Aside0.mk hcell
    clear hcell ep HB hl
    go_enter Tryd.func37, Tryd.ntmps37
    go_wp2_with fail
    go_loopw [5, 11] (fun _ i wr => ∃ k : Nat, i = .int .i64 (k : Int) ∧ k ≤ l.length ∧ Aside0 (Lib.IsBuilder 104 5 w.heap.size w.heap.size (Lib.byteCells (hexb (l.take k))) wr ∧ Below w.heap.size w wr)) (fun _ i _ => l.length - (intOf i).toNat)
    case atStart => 
      refine ⟨0, rfl, Nat.zero_le _, Aside0.mk ⟨Or.inl ⟨Nat.le_refl _, _, heap_alloc_new w _, ?_, ?_⟩, (Below.refl _ _).alloc (Nat.le_refl _) _⟩⟩
      · exact ⟨rfl, Or.inl ⟨rfl, rfl⟩⟩
      · simp [Value.ownBlock]
    case round =>
      obtain ⟨k, rfl, hk, HS⟩ := hrel
      by_cases hlt : k < l.length
      · have hcl : wr.cell? (ad.add k) = some (.int .u8 (l[k].toNat)) := pw_cell_below HS.out.2 (HC.out k hlt)
        have h256 := l[k].toNat_lt
        generalize hx : l[k] = x at *
        have HX := Aside0.mk hx
        clear hx
        go_wp2_with fail
        have hb1 : (hexb (l.take k)).length ≤ 2000000 := by rw [hexb_len, List.length_take]; omega
        refine (wbyte_calls _ _ _ _ wr HS.out.1 (by rw [Lib.byteCells_length]; omega) HS.out.2.size).mono ?_
        rintro e w1 ⟨rfl, hi1, hb1⟩
        have HB1 := Aside0.mk (HS.out.2.trans hb1)
        have HI1 := Aside0.mk hi1
        have ea := and15 x
        clear hb1 hi1
        generalize hm : x.toNat % 16 = m at *
        have hm16 : m < 16 := by omega
        have HM := Aside0.mk hm
        clear hm
        go_wp2_with fail
        refine (wbyte_calls _ _ _ _ w1 (Or.inr HI1.out) (by rw [List.length_append, Lib.byteCells_length]; simp; omega) HB1.out.size).mono ?_
        rintro e w2 ⟨rfl, hi2, hb2⟩
        have hi3 : Lib.BuilderAt 104 5 w.heap.size w.heap.size (.pointer (some ⟨w.heap.size, 0, none⟩)) (Lib.byteCells (hexb (l.take (k + 1)))) w2 := by
          rw [List.take_succ_eq_append_getElem hlt, HX.out, hexb_snoc, Lib.byteCells_append]
          have e2 : Lib.byteCells [hexd (x.toNat / 16), hexd (x.toNat % 16)] = [.int .u8 ((hexd (x.toNat / 16)).toNat)] ++ [.int .u8 ((hexd (x.toNat % 16)).toNat)] := rfl
          rw [e2, ← List.append_assoc, ← digs_at (x.toNat / 16) (by omega), ← digs_at (x.toNat % 16) (by omega)]
          simp only [HM.out]
          exact hi2
        have HI3 := Aside0.mk hi3
        have HB2 := Aside0.mk (HB1.out.trans hb2)
        clear hi3 hi2 hb2
        go_wp2_with fail
        go_roundw
        case rel => exact ⟨k + 1, by simp, by omega, Aside0.mk ⟨Or.inr HI3.out, HB2.out⟩⟩
        case measure => simp [intOf]; omega
      · have ek : k = l.length := by omega
        subst ek
        have HS2 := HS.out.1
        rw [List.take_length] at HS2
        have HT := Aside0.mk HS2
        clear HS2 hlt
        go_wp2_with fail
        refine (Tryd.Builder_String_any _ _ _ wr HT.out HS.out.2.size).mono ?_
        rintro e w1 ⟨rfl, hb1⟩
        go_wp2_with fail
        go_ret
        exact ⟨rfl, HS.out.2.trans (hb1.mono (Nat.le_refl _))⟩
end Go.Proofs.YtfjjikabinelgaaDoor
