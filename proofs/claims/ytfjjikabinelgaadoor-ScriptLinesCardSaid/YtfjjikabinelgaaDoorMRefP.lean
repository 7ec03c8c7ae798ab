/- The document's Parse, walked. -/
import Derived.Test.YtfjjikabinelgaaDoorMRefT
import Derived.Deep.RegionHeld3
import Derived.Deep.CutBlock
import Derived.Deep.DeepCutAuto
namespace Go.Proofs.YtfjjikabinelgaaDoor
open Go.Lib (decDigits)
open Go.RowKit Go.Maps Go.Proofs.YtfjjikabinelgaaDoorW.PrintWords Go.Proofs.YtfjjikabinelgaaDoorW.PrintLast Go.Proofs.YtfjjikabinelgaaDoorW.PrintMore Sc PScriptLines
set_option linter.unusedVariables false
set_option linter.unusedSimpArgs false
attribute [local go_sem] min_two

/-- What the document's Parse tells of a line. -/
def RParseP (w : World) (r : Option Stp) (e : Ending) (w' : World) : Prop :=
  ∃ cs : List Value, e = .returned (.tuple #[.agg cs.toArray, .int .i64 (if r.isSome then 0 else 60)]) ∧ k32.M w' w.heap.size (fun _ => True) (s32 (r.getD Stp.nil)) cs ∧ Below w.heap.size w w'

/-- How Parse's blocks lie: the result, the step x; the parts lie as they lay in w1. -/
structure RP (W w1 : World) (x : Nat) (w : World) (p : List (List UInt8)) (A : Option Addr) (c : Nat) (cs : Array Value) : Prop where
  rb : w.heap[W.heap.size]? = some (.cells zero33 32 (0, 0))
  xb : w.heap[x]? = some (.cells cs 32 (0, 0))
  row : p.length ≤ c ∧ Kd.C Kd.string w1 A (p.map str).length (p.map str)
  bel : Below w1.heap.size w1 w
  bw : Below W.heap.size W w1
  gx : w1.heap.size ≤ x
  g0 : W.heap.size < w1.heap.size

theorem RP.below {W w1 w w2 : World} {x : Nat} {p : List (List UInt8)} {A : Option Addr} {c : Nat} {cs : Array Value} (H : RP W w1 x w p A c cs) (hb : Below w.heap.size w w2) : RP W w1 x w2 p A c cs :=
  ⟨(hb.block _ (blk_lt H.rb)).trans H.rb, (hb.block _ (blk_lt H.xb)).trans H.xb, H.row, H.bel.trans (hb.mono H.bel.size), H.bw, H.gx, H.g0⟩
theorem RP.put {W w1 w : World} {x : Nat} {p : List (List UInt8)} {A : Option Addr} {c : Nat} {cs : Array Value} (H : RP W w1 x w p A c cs) (j : Nat) (u : Value) : RP W w1 x (w.setCell ⟨x, j, none⟩ u) p A c (cs.setIfInBounds j u) :=
  ⟨blk_far H.rb (by have := H.gx; have := H.g0; simp; omega) u, blk_set H.xb j u, H.row, H.bel.setCell H.gx u, H.bw, H.gx, H.g0⟩
/-- The first part is taken off. -/
theorem RP.drop {W w1 w : World} {x : Nat} {s : List UInt8} {r : List (List UInt8)} {A : Option Addr} {c : Nat} {cs : Array Value} (H : RP W w1 x w (s :: r) A c cs) :
    ∃ A', (∀ V : World, (Instr.slice 59 (.slice A (s :: r).length c) (some (.int .i64 1)) none none).run Tryd.prog V = .ok (.slice A' r.length (c - 1)) V) ∧ RP W w1 x w r A' (c - 1) cs := by
  obtain ⟨hc, hr⟩ := H.row
  obtain ⟨i0, hi, hzz⟩ := Option.map_eq_some_iff.1 info9
  simp only [Prod.mk.injEq] at hzz
  obtain ⟨A', h1, h2⟩ := print_cut_of (P := Tryd.prog) Value.string ByteArray.empty 59 9 .i64 Tryd.underlying59 hi hzz.2.1 A (s :: r).length c 1 (by simp)
  have hr1 := Kd.reads_of_C (d := ByteArray.empty) hr
  rw [List.length_map] at hr1
  have hr2 := h2 w1 ((s :: r).map str) hc hr1
  refine ⟨A', h1, H.rb, H.xb, ⟨by simp at hc; omega, ?_⟩, H.bel, H.bw, H.gx, H.g0⟩
  have hr3 := Kd.C_of_reads (d := ByteArray.empty) (h1 := fun _ => rfl) hr2
  have e1 : (s :: r).length - 1 = (r.map str).length := by simp
  rw [e1] at hr3
  exact hr3
theorem RP.head {W w1 w : World} {x : Nat} {s : List UInt8} {r : List (List UInt8)} {A : Option Addr} {c : Nat} {cs : Array Value} (H : RP W w1 x w (s :: r) A c cs) :
    ∃ ad, A = some ad ∧ w1.cell? ad = some (.string (str s)) := C_str H.row.2

/-- The kind told by the words below j. -/
def kAt (s : List UInt8) (j : Nat) : Nat := match kindOf s with
  | some i => if i < j then i else 255
  | none => 255
theorem kAt_ten (s : List UInt8) : kAt s 10 = kindR s := by
  unfold kAt kindR
  cases h : kindOf s with
  | none => rfl
  | some i => 
    have := (word_kindOf h).2
    simp; omega
theorem kAt_zero (s : List UInt8) : kAt s 0 = 255 := by
  unfold kAt
  cases h : kindOf s <;> simp
theorem kAt_hit {s : List UInt8} {j : Nat} (hj : j ≤ 9) (h : word j = s) : kAt s (j + 1) = j := by
  subst h
  unfold kAt
  rw [kindOf_word hj]
  simp
theorem kAt_miss {s : List UInt8} {j : Nat} (hj : j ≤ 9) (h : word j ≠ s) : kAt s (j + 1) = kAt s j := by
  unfold kAt
  cases hk : kindOf s with
  | none => rfl
  | some i =>
    obtain ⟨e, hi⟩ := word_kindOf hk
    have : i ≠ j := fun e2 => h (by rw [← e2, e])
    simp only
    by_cases hij : i < j
    · rw [if_pos (by omega), if_pos hij]
    · rw [if_neg (by omega), if_neg hij]
theorem kAt_lt (s : List UInt8) (j : Nat) : kAt s j < 256 := by
  unfold kAt
  cases hk : kindOf s with
  | none => simp
  | some i =>
    have := (word_kindOf hk).2
    simp only
    split <;> omega
theorem rsided_any (k : Nat) (w : World) : Calls Tryd.prog 30 #[.int .u8 k] w fun e w' => e = .returned (.bool (sided k)) ∧ Below w.heap.size w w' := by
  refine (sumpterref34_sided.calls k (sided k) w (sided_f k)).mono ?_
  rintro e w' ⟨rfl, hd⟩
  exact ⟨rfl, hd.below⟩
theorem min_nine (n : Nat) : Builtin.min2 (.int .i64 9) (.int .i64 (n : Int)) = pure (.int .i64 ((min 9 n : Nat) : Int)) := by
  rw [min2_int]
  congr 2
  split <;> omega

theorem rSide_mem (k : Nat) (p : List (List UInt8)) : ∀ y ∈ (rSide k p).2, y ∈ p := by
  unfold rSide
  split
  · exact fun y hy => List.mem_of_mem_tail hy
  · exact fun y hy => hy
theorem rN_mem (k : Nat) (p : List (List UInt8)) : ∀ y ∈ (rN k p).2, y ∈ p := by
  unfold rN
  split
  · exact fun y hy => List.mem_of_mem_tail hy
  · exact fun y hy => hy
theorem rPath_mem (k : Nat) (p : List (List UInt8)) : ∀ y ∈ (rPath k p).2, y ∈ p := by
  unfold rPath
  split
  · exact fun y hy => List.mem_of_mem_tail hy
  · exact fun y hy => hy
theorem rPath_len (k : Nat) (p : List (List UInt8)) (h : ∀ y ∈ p, y.length ≤ 1000000) : (rPath k p).1.length ≤ 1000000 := by
  unfold rPath
  split
  · next hc =>
    cases p with
    | nil => simp
    | cons y z => exact h y (by simp)
  · simp
theorem rSide_lt (k : Nat) (p : List (List UInt8)) : (rSide k p).1 ≤ 9 := by
  unfold rSide
  split <;> simp; omega
theorem rN_lt (k : Nat) (p : List (List UInt8)) : (rN k p).1 < 1000000000000000000 := by
  unfold rN
  split
  · exact numR_lt _
  · simp

theorem numR_lt' (l : List UInt8) : numR l < 1000000000000000000 := numR_lt l

theorem rData_len (k : Nat) (p : List (List UInt8)) (h : ∀ y ∈ p, y.length ≤ 1000000) : (rData k p).length ≤ 1000000 := by
  unfold rData
  split
  · cases p with
    | nil => simp [unhexW]
    | cons y z => exact Nat.le_trans (rhexlen hexz y) (h y (by simp))
  · simp

set_option maxHeartbeats 4000000 in
set_option maxRecDepth 100000 in
theorem rparse_calls (l : List UInt8) (hl : l.length ≤ 1000000) (w : World) :
    Calls Tryd.prog 13 #[.string (str l)] w fun e w' => RParseP w (parseR l) e w' := by
  obtain ⟨s, r, hsr⟩ : ∃ s r, spl 32 l = s :: r := by
    cases h : spl 32 l with
    | nil => exact absurd h (spl_ne 32 l)
    | cons s r => exact ⟨s, r, rfl⟩
  have hsm : ∀ y ∈ s :: r, y.length ≤ 1000000 := fun y hy => Nat.le_trans (mem_len 32 l y (by rw [hsr]; exact hy)) hl
  have hrn : r.length ≤ 1000000 := by
    have h1 := spl_len 32 l
    have h2 : l.count 32 ≤ l.length := List.count_le_length
    rw [hsr] at h1
    simp at h1
    omega
  have HSR := Aside0.mk hsr
  have HSM := Aside0.mk hsm
  clear hsr hsm
  go_enter Tryd.func13, Tryd.ntmps13
  go_wp2_with fail
  refine (rparts_calls l hl _).mono ?_
  rintro e w1 ⟨v, rfl, hR, hb1⟩
  obtain ⟨A, c, rfl⟩ := Kd.R_slice hR
  obtain ⟨_, hlc, hC⟩ := Kd.R_reads' hR
  rw [HSR.out] at hlc hC
  rw [HSR.out, List.length_map]
  have hrb : w1.heap[w.heap.size]? = some (.cells zero33 32 (0, 0)) := (hb1.block _ (by simp)).trans (heap_alloc_new w _)
  have hg0 := blk_lt hrb
  have hbw : Below w.heap.size w w1 := Below.trans ((Below.refl _ _).alloc (Nat.le_refl _) _) (hb1.mono (by simp))
  have hbase : RP w w1 w1.heap.size (w1.alloc (.cells #[.int .u8 255, .int .u8 0, .int .i64 0, .int .u32 0, .bool false, .string ⟨#[]⟩, .slice none 0 0] 32)) (s :: r) A c (cells7 255 0 0 0 false [] (.slice none 0 0)) :=
    ⟨(Below.heap_alloc _ _ _ hg0).trans hrb, heap_alloc_new w1 _, ⟨by simpa using hlc, hC⟩, (Below.refl _ _).alloc (Nat.le_refl _) _, hbw, Nat.le_refl _, hg0⟩
  have HP := Aside0.mk hbase
  clear hbase hbw hrb hlc hC hb1 hR
  -- the loop
  go_upto_block 0 with fail
  go_cut [] (fun wc => Aside0 (RP w w1 w1.heap.size wc (s :: r) A c (cells7 (kindR s) 0 0 0 false [] (.slice none 0 0))))
  case first =>
    go_wp2_with fail
    go_loopw [6] (fun v6 wr => ∃ j : Nat, v6 = .int .u8 (j : Int) ∧ j ≤ 10 ∧ Aside0 (RP w w1 w1.heap.size wr (s :: r) A c (cells7 (kAt s j) 0 0 0 false [] (.slice none 0 0)))) (fun v6 _ => 10 - (intOf v6).toNat)
    case atStart => exact ⟨0, rfl, by omega, Aside0.mk (by rw [kAt_zero]; exact HP.out)⟩
    case round =>
      clear HP
      obtain ⟨j, rfl, hj, HS⟩ := hrel
      by_cases hj9 : j ≤ 9
      · obtain ⟨ad, rfl, hcell⟩ := HS.out.head
        have HCW := Aside0.mk hcell
        have had : wr.cell? ad = some (.string (str s)) := pw_cell_below HS.out.bel hcell
        have hjz : (j : Int) ≤ 9 := by omega
        have hrp : (0 : Int) < (r.length : Int) + 1 := by omega
        have hrp2 : (0 : Int) ≤ 0 := by omega
        clear hcell
        go_wp2_with fail
        go_region_held3 (fun w' => w'.cell? ad = some (.string (str s))) (first | go_keep | exact pw_cell_below HS3.out.bel HCW.out | exact pw_cell_below (HS3.out.below ((Below.refl _ _).drew)).bel HCW.out) ((go_at_call 29; refine (rword_calls j hj9 _).mono ?_; rintro e1 w3 ⟨rfl, hb3⟩; have HS3 := Aside0.mk (HS.out.below (Below.trans (by repeat (first | exact Below.refl _ _ | apply pw_below_drewN | apply below_drew1)) hb3)); clear hb3))
        -- behind the test
        all_goals
          by_cases hw : word j = s
          · have e : ((str (word j)).toList == (str s).toList) = true := by rw [str_toList, str_toList]; simpa using hw
            have HW := Aside0.mk hw
            rw [e]
            have x0 : w3.cell? ⟨w1.heap.size, 0, none⟩ = some (.int .u8 (kAt s j : Nat)) := blk_cell HS3.out.xb 0
            have f0 : w3.frozen? ⟨w1.heap.size, 0, none⟩ = false := blk_frozen HS3.out.xb 0
            clear hw e had
            go_wp2_with fail
            go_roundw
            case rel => exact ⟨j + 1, by go_num, by omega, Aside0.mk (by have h := HS3.out.put 0 (.int .u8 (j : Int)); rw [kAt_hit hj9 HW.out]; exact h)⟩
            case measure => simp [intOf]; omega
          · have e : ((str (word j)).toList == (str s).toList) = false := by rw [str_toList, str_toList]; simpa using hw
            have HW := Aside0.mk hw
            rw [e]
            clear hw e had
            go_wp2_with fail
            go_roundw
            case rel => exact ⟨j + 1, by go_num, by omega, Aside0.mk (by rw [kAt_miss hj9 HW.out]; exact HS3.out)⟩
            case measure => simp [intOf]; omega
      · have hj10 : j = 10 := by omega
        subst hj10
        clear hj9 hj
        go_wp2_with fail
        go_meet
        exact Aside0.mk (by rw [← kAt_ten]; exact HS.out)
  case rest =>
    clear HP
    have HP := hcut
    clear hcut
    generalize hk : kindR s = k at *
    have hk256 : k < 256 := by rw [← hk, ← kAt_ten]; exact kAt_lt s 10
    have HK := Aside0.mk hk
    clear hk
    obtain ⟨A1, hcut1, hp1⟩ := HP.out.drop
    have hcl : (r.length : Int) + 1 ≤ c := by have := HP.out.row.1; simp at this; omega
    have HP1 := Aside0.mk hp1
    clear hp1 HP
    obtain ⟨c1, hc1⟩ : ∃ c1, c1 = c - 1 := ⟨_, rfl⟩
    rw [← hc1] at HP1 hcut1
    clear hc1
    rw [List.length_cons] at hcut1
    go_upto_region 9 with fail
    -- the side
    clear hcut1 hcl
    go_cut [31] (fun v31 wc => v31 = .bool (sided k && decide (r ≠ [])) ∧ Aside0 (RP w w1 w1.heap.size wc r A1 c1 (cells7 k 0 0 0 false [] (.slice none 0 0))))
    case first =>
      have x0 : wc.cell? ⟨w1.heap.size, 0, none⟩ = some (.int .u8 k) := blk_cell HP1.out.xb 0
      cases hs : sided k with
      | false =>
        have HS := Aside0.mk hs
        clear hs
        go_wp2_with (go_at_call 30; refine (rsided_any k _).mono ?_; rw [HS.out]; rintro e1 w3 ⟨rfl, hb3⟩; have HP2 := Aside0.mk (HP1.out.below hb3); clear hb3)
        go_meet
        exact ⟨by rw [HS.out]; rfl, HP2⟩
      | true =>
        have HS := Aside0.mk hs
        clear hs
        cases r with
        | nil =>
          go_wp2_with (go_at_call 30; refine (rsided_any k _).mono ?_; rw [HS.out]; rintro e1 w3 ⟨rfl, hb3⟩; have HP2 := Aside0.mk (HP1.out.below hb3); clear hb3)
          go_meet
          exact ⟨by rw [HS.out]; rfl, HP2⟩
        | cons y z =>
          have hz : (0 : Int) < (z.length : Int) + 1 := by omega
          go_wp2_with (go_at_call 30; refine (rsided_any k _).mono ?_; rw [HS.out]; rintro e1 w3 ⟨rfl, hb3⟩; have HP2 := Aside0.mk (HP1.out.below hb3); clear hb3)
          go_meet
          exact ⟨by rw [HS.out]; simp, HP2⟩
    case rest =>
      clear HP1
      obtain ⟨rfl, HP1⟩ := hcut
      go_upto_if 31 with fail
      go_cut [4] (fun v4 wc => ∃ A' c', v4 = .slice A' (rSide k r).2.length c' ∧ Aside0 (RP w w1 w1.heap.size wc (rSide k r).2 A' c' (cells7 k (rSide k r).1 0 0 false [] (.slice none 0 0))))
      case first =>
        by_cases hb : (sided k && decide (r ≠ [])) = true
        · have HB := Aside0.mk hb
          rw [hb]
          simp only [Bool.and_eq_true, decide_eq_true_eq] at hb
          obtain ⟨hs, hne⟩ := hb
          cases r with
          | nil => exact absurd rfl hne
          | cons y z =>
            obtain ⟨ad, rfl, hcell⟩ := HP1.out.head
            have had : wc.cell? ad = some (.string (str y)) := pw_cell_below HP1.out.bel hcell
            obtain ⟨A2, hcut2, hp2⟩ := HP1.out.drop
            have hzc : (z.length : Int) + 1 ≤ c1 := by have := HP1.out.row.1; simp at this; omega
            have hz : (0 : Int) < (z.length : Int) + 1 := by omega
            have hmn := min_nine (numR y)
            obtain ⟨m, hm⟩ : ∃ m, m = min 9 (numR y) := ⟨_, rfl⟩
            rw [← hm] at hmn
            have hm9 : m ≤ 9 := by omega
            have HM := Aside0.mk hm
            have HP2 := Aside0.mk hp2
            obtain ⟨c2, hc2⟩ : ∃ c2, c2 = c1 - 1 := ⟨_, rfl⟩
            rw [← hc2] at HP2 hcut2
            rw [List.length_cons] at hcut2
            clear hcell hp2 hm hc2 hs hne
            go_wp2_with fail
            refine (rnumber_calls y _).mono ?_
            rintro e1 w3 ⟨rfl, hb3⟩
            have HP3 := Aside0.mk (HP2.out.below hb3)
            have x1 : w3.cell? ⟨w1.heap.size, 1, none⟩ = some (.int .u8 0) := blk_cell HP3.out.xb 1
            have f1 : w3.frozen? ⟨w1.heap.size, 1, none⟩ = false := blk_frozen HP3.out.xb 1
            clear hb3 had
            go_wp2_with fail
            go_meet
            have e1 : rSide k (y :: z) = (m, z) := by unfold rSide; rw [if_pos HB.out, HM.out]; rfl
            rw [e1]
            exact ⟨A2, c2, rfl, Aside0.mk (HP3.out.put 1 (.int .u8 (m : Int)))⟩
        · have hb' : (sided k && decide (r ≠ [])) = false := by simpa using hb
          have HB := Aside0.mk hb'
          rw [hb']
          clear hb hb'
          go_wp2_with fail
          go_meet
          have e1 : rSide k r = (0, r) := by unfold rSide; rw [if_neg (by rw [HB.out]; decide)]
          rw [e1]
          exact ⟨A1, c1, rfl, HP1⟩
      case rest =>
        clear HP1
        obtain ⟨A2, c2, rfl, HP1⟩ := hcut
        have hm1 := rSide_mem k r
        have hv1 := rSide_lt k r
        generalize hsv : rSide k r = sv at *
        obtain ⟨v1, p1⟩ := sv
        have HSV := Aside0.mk hsv
        dsimp only at HP1 hm1 hv1
        have HM1 : Aside0 (∀ y ∈ p1, y.length ≤ 1000000) := Aside0.mk (fun y hy => HSM.out y (by simp [hm1 y hy]))
        clear hsv hm1
        go_upto_region 12 with fail
        go_cut [53] (fun vt wc => vt = .bool (hasN k && decide (p1 ≠ [])) ∧ Aside0 (RP w w1 w1.heap.size wc p1 A2 c2 (cells7 k v1 0 0 false [] (.slice none 0 0))))
        case first =>
          have x0 : wc.cell? ⟨w1.heap.size, 0, none⟩ = some (.int .u8 k) := blk_cell HP1.out.xb 0
          cases hb : (hasN k && decide (p1 ≠ [])) with
          | false =>
            have HB := Aside0.mk hb
            by_cases h5 : k = 5
            · subst h5
              clear hb
              go_wp2_with fail
              go_meet
              exact ⟨by rw [HB.out], HP1⟩
            · have b5 : ((k : Int) != 5) = true := by rw [bne_iff_ne]; omega
              by_cases h9 : k = 9
              · subst h9
                clear hb h5
                go_wp2_with fail
                go_meet
                exact ⟨by rw [HB.out], HP1⟩
              · have b9 : ((k : Int) != 9) = true := by rw [bne_iff_ne]; omega
                have e1 : hasN k = true := by unfold hasN; rw [decide_eq_true h5, decide_eq_true h9]; rfl
                rw [e1, Bool.true_and] at hb
                have hp1 : p1 = [] := by simpa using hb
                subst hp1
                clear h5 h9 e1 hb
                go_wp2_with fail
                go_meet
                exact ⟨by rw [HB.out], HP1⟩
          | true =>
            have HB := Aside0.mk hb
            simp only [Bool.and_eq_true, decide_eq_true_eq] at hb
            obtain ⟨hn, hne⟩ := hb
            have b5 : ((k : Int) != 5) = true := by rw [bne_iff_ne]; intro h; have e : k = 5 := (by omega); subst e; cases hn
            have b9 : ((k : Int) != 9) = true := by rw [bne_iff_ne]; intro h; have e : k = 9 := (by omega); subst e; cases hn
            cases p1 with
            | nil => exact absurd rfl hne
            | cons y z =>
              have hz : (0 : Int) < (z.length : Int) + 1 := by omega
              clear hn hne
              go_wp2_with fail
              go_meet
              exact ⟨by rw [HB.out], HP1⟩
        case rest =>
          clear HP1
          obtain ⟨rfl, HP1⟩ := hcut
          go_upto_if 53 with fail
          go_cut [4] (fun v4 wc => ∃ A' c', v4 = .slice A' (rN k p1).2.length c' ∧ Aside0 (RP w w1 w1.heap.size wc (rN k p1).2 A' c' (cells7 k v1 (rN k p1).1 0 false [] (.slice none 0 0))))
          case first =>
            by_cases hb : (hasN k && decide (p1 ≠ [])) = true
            · have HB := Aside0.mk hb
              rw [hb]
              simp only [Bool.and_eq_true, decide_eq_true_eq] at hb
              obtain ⟨_, hne⟩ := hb
              cases p1 with
              | nil => exact absurd rfl hne
              | cons y z =>
                obtain ⟨ad, rfl, hcell⟩ := HP1.out.head
                have had : wc.cell? ad = some (.string (str y)) := pw_cell_below HP1.out.bel hcell
                obtain ⟨A9, hcut2, hp2⟩ := HP1.out.drop
                have hzc : (z.length : Int) + 1 ≤ c2 := by have := HP1.out.row.1; simp at this; omega
                have hz : (0 : Int) < (z.length : Int) + 1 := by omega
                have HP2 := Aside0.mk hp2
                obtain ⟨c9, hc2⟩ : ∃ c9, c9 = c2 - 1 := ⟨_, rfl⟩
                rw [← hc2] at HP2 hcut2
                rw [List.length_cons] at hcut2
                clear hcell hp2 hc2 hne
                go_wp2_with fail
                refine (rnumber_calls y _).mono ?_
                rintro e1 w3 ⟨rfl, hb3⟩
                have HP3 := Aside0.mk (HP2.out.below hb3)
                have x1 : w3.cell? ⟨w1.heap.size, 2, none⟩ = some (.int .i64 0) := blk_cell HP3.out.xb 2
                have f1 : w3.frozen? ⟨w1.heap.size, 2, none⟩ = false := blk_frozen HP3.out.xb 2
                clear hb3 had
                go_wp2_with fail
                go_meet
                have e1 : rN k (y :: z) = (numR y, z) := by unfold rN; rw [if_pos HB.out]; rfl
                rw [e1]
                exact ⟨A9, c9, rfl, Aside0.mk (HP3.out.put 2 (.int .i64 (numR y : Nat)))⟩
            · have hb' : (hasN k && decide (p1 ≠ [])) = false := by simpa using hb
              have HB := Aside0.mk hb'
              rw [hb']
              clear hb hb'
              go_wp2_with fail
              go_meet
              have e1 : rN k p1 = (0, p1) := by unfold rN; rw [if_neg (by rw [HB.out]; decide)]
              rw [e1]
              exact ⟨A2, c2, rfl, HP1⟩
          case rest =>
            clear HP1
            obtain ⟨A2n, c2n, rfl, HP1⟩ := hcut
            have hm2 := rN_mem k p1
            have hv2 := rN_lt k p1
            generalize hsv : rN k p1 = sv at *
            obtain ⟨v2, p2⟩ := sv
            have HSV2 := Aside0.mk hsv
            dsimp only at HP1 hm2 hv2
            have HM2 : Aside0 (∀ y ∈ p2, y.length ≤ 1000000) := Aside0.mk (fun y hy => HM1.out y (hm2 y hy))
            clear hsv hm2
            go_upto_region 15 with fail
            go_cut [68] (fun vt wc => vt = .bool (decide (k = 9) && decide (p2 ≠ [])) ∧ Aside0 (RP w w1 w1.heap.size wc p2 A2n c2n (cells7 k v1 v2 0 false [] (.slice none 0 0))))
            case first =>
              have x0 : wc.cell? ⟨w1.heap.size, 0, none⟩ = some (.int .u8 k) := blk_cell HP1.out.xb 0
              by_cases h9 : k = 9
              · subst h9
                cases p2 with
                | nil =>
                  go_wp2_with fail
                  go_meet
                  exact ⟨rfl, HP1⟩
                | cons y z =>
                  have hz : (0 : Int) < (z.length : Int) + 1 := by omega
                  go_wp2_with fail
                  go_meet
                  exact ⟨rfl, HP1⟩
              · have b9 : ((k : Int) == 9) = false := by rw [beq_eq_false_iff_ne]; omega
                have e1 : decide (k = 9) = false := decide_eq_false h9
                have HE := Aside0.mk e1
                clear h9 e1
                go_wp2_with fail
                go_meet
                exact ⟨by rw [HE.out]; rfl, HP1⟩
            case rest =>
              clear HP1
              obtain ⟨rfl, HP1⟩ := hcut
              go_upto_if 68 with fail
              go_cut [4] (fun v4 wc => ∃ A' c', v4 = .slice A' (rPath k p2).2.length c' ∧ Aside0 (RP w w1 w1.heap.size wc (rPath k p2).2 A' c' (cells7 k v1 v2 0 false (rPath k p2).1 (.slice none 0 0))))
              case first =>
                by_cases hb : (decide (k = 9) && decide (p2 ≠ [])) = true
                · have HB := Aside0.mk hb
                  rw [hb]
                  simp only [Bool.and_eq_true, decide_eq_true_eq] at hb
                  obtain ⟨_, hne⟩ := hb
                  cases p2 with
                  | nil => exact absurd rfl hne
                  | cons y z =>
                    obtain ⟨ad, rfl, hcell⟩ := HP1.out.head
                    have had : wc.cell? ad = some (.string (str y)) := pw_cell_below HP1.out.bel hcell
                    obtain ⟨A9, hcut2, hp2⟩ := HP1.out.drop
                    have hzc : (z.length : Int) + 1 ≤ c2n := by have := HP1.out.row.1; simp at this; omega
                    have hz : (0 : Int) < (z.length : Int) + 1 := by omega
                    have HP2 := Aside0.mk hp2
                    obtain ⟨c9, hc2⟩ : ∃ c9, c9 = c2n - 1 := ⟨_, rfl⟩
                    rw [← hc2] at HP2 hcut2
                    rw [List.length_cons] at hcut2
                    clear hcell hp2 hc2 hne
                    have HP3 := HP2
                    have x1 : wc.cell? ⟨w1.heap.size, 5, none⟩ = some (.string ⟨#[]⟩) := blk_cell HP3.out.xb 5
                    have f1 : wc.frozen? ⟨w1.heap.size, 5, none⟩ = false := blk_frozen HP3.out.xb 5
                    go_wp2_with fail
                    go_meet
                    have e1 : rPath k (y :: z) = (y, z) := by unfold rPath; rw [if_pos HB.out]; rfl
                    rw [e1]
                    exact ⟨A9, c9, rfl, Aside0.mk (HP3.out.put 5 (.string (str y)))⟩
                · have hb' : (decide (k = 9) && decide (p2 ≠ [])) = false := by simpa using hb
                  have HB := Aside0.mk hb'
                  rw [hb']
                  clear hb hb'
                  go_wp2_with fail
                  go_meet
                  have e1 : rPath k p2 = ([], p2) := by unfold rPath; rw [if_neg (by rw [HB.out]; decide)]
                  rw [e1]
                  exact ⟨A2n, c2n, rfl, HP1⟩
              case rest =>
                clear HP1
                obtain ⟨A2nn, c2nn, rfl, HP1⟩ := hcut
                have hm3 := rPath_mem k p2
                have hv3 := rPath_len k p2 HM2.out
                generalize hsv : rPath k p2 = sv at *
                obtain ⟨v3, p3⟩ := sv
                have HSV3 := Aside0.mk hsv
                dsimp only at HP1 hm3 hv3 ⊢
                have HM3 : Aside0 (∀ y ∈ p3, y.length ≤ 1000000) := Aside0.mk (fun y hy => HM2.out y (hm3 y hy))
                clear hsv hm3
                go_upto_block 2 with fail
                go_cut [] (fun wc => ∃ dA dc, Aside0 (RP w w1 w1.heap.size wc p3 A2nn c2nn (cells7 k v1 v2 (rDraw k p3) (rDone k p3) v3 (.slice dA (rData k p3).length dc))) ∧ Aside0 (Kd.R (Kd.int .u8) 5 wc w1.heap.size (fun j => w1.heap.size < j) (.slice dA (rData k p3).length dc) (ints (rData k p3))))
                case first =>
                  have x0 : wc.cell? ⟨w1.heap.size, 0, none⟩ = some (.int .u8 k) := blk_cell HP1.out.xb 0
                  cases p3 with
                  | nil =>
                    go_wp2_with fail
                    go_meet
                    exact ⟨none, 0, HP1, Aside0.mk (Kd.R_nil _ _ _ _ _)⟩
                  | cons y z =>
                    obtain ⟨ad, rfl, hcell⟩ := HP1.out.head
                    have HCW := Aside0.mk hcell
                    have had : wc.cell? ad = some (.string (str y)) := pw_cell_below HP1.out.bel hcell
                    have hz : (0 : Int) < (z.length : Int) + 1 := by omega
                    have hyl : y.length ≤ 1000000 := HM3.out y (by simp)
                    have hlen0 : (((z.length : Int) + 1) == 0) = false := by rw [beq_eq_false_iff_ne]; omega
                    clear hcell
                    by_cases hk0 : k = 0
                    · subst hk0
                      have hv := numR_lt' y
                      go_wp2_with fail
                      refine (rnumber_calls y _).mono ?_
                      rintro e1 w3 ⟨rfl, hb3⟩
                      have HP3 := Aside0.mk (HP1.out.below hb3)
                      have x3 : w3.cell? ⟨w1.heap.size, 3, none⟩ = some (.int .u32 0) := blk_cell HP3.out.xb 3
                      have f3 : w3.frozen? ⟨w1.heap.size, 3, none⟩ = false := blk_frozen HP3.out.xb 3
                      obtain ⟨m, hm⟩ : ∃ m, m = numR y % 4294967296 := ⟨_, rfl⟩
                      have em : ((numR y : Nat) : Int) % 4294967296 = (m : Int) := by rw [hm]; rfl
                      have hm32 : m < 4294967296 := by omega
                      have HM := Aside0.mk hm
                      clear hm hb3 had
                      go_wp2_with fail
                      go_meet
                      have e1 : rDraw 0 (y :: z) = m := by unfold rDraw; rw [if_pos (by simp), HM.out]; rfl
                      have e2 : rDone 0 (y :: z) = false := rDone_no (by decide) _
                      have e3 : rData 0 (y :: z) = [] := rData_no (by decide) _
                      rw [e1, e2, e3]
                      exact ⟨none, 0, Aside0.mk (HP3.out.put 3 (.int .u32 m)), Aside0.mk (Kd.R_nil _ _ _ _ _)⟩
                    have b0 : ((k : Int) == 0) = false := by rw [beq_eq_false_iff_ne]; omega
                    by_cases hk7 : k = 7
                    · subst hk7
                      have x4 : wc.cell? ⟨w1.heap.size, 4, none⟩ = some (.bool false) := blk_cell HP1.out.xb 4
                      have f4 : wc.frozen? ⟨w1.heap.size, 4, none⟩ = false := blk_frozen HP1.out.xb 4
                      have e2 : rDone 7 (y :: z) = decide (y = [49]) := by simp [rDone]
                      have e1 : rDraw 7 (y :: z) = 0 := rDraw_no (by decide) _
                      have e3 : rData 7 (y :: z) = [] := rData_no (by decide) _
                      have HE := Aside0.mk (And.intro e1 (And.intro e2 e3))
                      have be : ((str y).toList == [49]) = decide (y = [49]) := by rw [str_toList, Bool.eq_iff_iff, beq_iff_eq, decide_eq_true_eq]
                      generalize hbb : decide (y = [49]) = bb at *
                      clear e1 e2 e3 hbb hk0 b0
                      go_wp2_with fail
                      go_meet
                      rw [HE.out.1, HE.out.2.1, HE.out.2.2]
                      exact ⟨none, 0, Aside0.mk (HP1.out.put 4 (.bool bb)), Aside0.mk (Kd.R_nil _ _ _ _ _)⟩
                    have b7 : ((k : Int) == 7) = false := by rw [beq_eq_false_iff_ne]; omega
                    by_cases hk9 : k = 9
                    · subst hk9
                      go_wp2_with fail
                      refine (rbytes_calls y hyl _).mono ?_
                      rintro e1 w3 ⟨u, rfl, hR, hb3⟩
                      have HP3 := Aside0.mk (HP1.out.below hb3)
                      have x6 : w3.cell? ⟨w1.heap.size, 6, none⟩ = some (.slice none 0 0) := blk_cell HP3.out.xb 6
                      have f6 : w3.frozen? ⟨w1.heap.size, 6, none⟩ = false := blk_frozen HP3.out.xb 6
                      obtain ⟨uA, uc, rfl⟩ := Kd.R_slice hR
                      rw [ints_len] at hR ⊢
                      have HR := Aside0.mk hR
                      have HLT := Aside0.mk (blk_lt HP1.out.xb)
                      clear hR hb3 had
                      go_wp2_with fail
                      go_meet
                      have e1 : rDraw 9 (y :: z) = 0 := rDraw_no (by decide) _
                      have e2 : rDone 9 (y :: z) = false := rDone_no (by decide) _
                      have e3 : rData 9 (y :: z) = unhexW hexz y := by unfold rData; rw [if_pos (by simp [hasD])]; rfl
                      rw [e1, e2, e3]
                      refine ⟨uA, uc, Aside0.mk (HP3.out.put 6 (.slice uA (unhexW hexz y).length uc)), Aside0.mk ?_⟩
                      have hq1 := HLT.out
                      refine Kd.R_lower (Kd.R_mono (Kd.R_step (Kd.R_bound HR.out) ?_) ?_) (by omega)
                      · rintro j ⟨_, hj, _⟩ _
                        exact Below.heap_setCell _ _ _ _ (by simp; omega)
                      · rintro j ⟨_, hj, _⟩
                        omega
                    have b9 : ((k : Int) == 9) = false := by rw [beq_eq_false_iff_ne]; omega
                    by_cases hk4 : k = 4
                    · subst hk4
                      go_wp2_with fail
                      refine (rbytes_calls y hyl _).mono ?_
                      rintro e1 w3 ⟨u, rfl, hR, hb3⟩
                      have HP3 := Aside0.mk (HP1.out.below hb3)
                      have x6 : w3.cell? ⟨w1.heap.size, 6, none⟩ = some (.slice none 0 0) := blk_cell HP3.out.xb 6
                      have f6 : w3.frozen? ⟨w1.heap.size, 6, none⟩ = false := blk_frozen HP3.out.xb 6
                      obtain ⟨uA, uc, rfl⟩ := Kd.R_slice hR
                      rw [ints_len] at hR ⊢
                      have HR := Aside0.mk hR
                      have HLT := Aside0.mk (blk_lt HP1.out.xb)
                      clear hR hb3 had
                      go_wp2_with fail
                      go_meet
                      have e1 : rDraw 4 (y :: z) = 0 := rDraw_no (by decide) _
                      have e2 : rDone 4 (y :: z) = false := rDone_no (by decide) _
                      have e3 : rData 4 (y :: z) = unhexW hexz y := by unfold rData; rw [if_pos (by simp [hasD])]; rfl
                      rw [e1, e2, e3]
                      refine ⟨uA, uc, Aside0.mk (HP3.out.put 6 (.slice uA (unhexW hexz y).length uc)), Aside0.mk ?_⟩
                      have hq1 := HLT.out
                      refine Kd.R_lower (Kd.R_mono (Kd.R_step (Kd.R_bound HR.out) ?_) ?_) (by omega)
                      · rintro j ⟨_, hj, _⟩ _
                        exact Below.heap_setCell _ _ _ _ (by simp; omega)
                      · rintro j ⟨_, hj, _⟩
                        omega
                    have b4 : ((k : Int) == 4) = false := by rw [beq_eq_false_iff_ne]; omega
                    by_cases hk5 : k = 5
                    · subst hk5
                      go_wp2_with fail
                      refine (rbytes_calls y hyl _).mono ?_
                      rintro e1 w3 ⟨u, rfl, hR, hb3⟩
                      have HP3 := Aside0.mk (HP1.out.below hb3)
                      have x6 : w3.cell? ⟨w1.heap.size, 6, none⟩ = some (.slice none 0 0) := blk_cell HP3.out.xb 6
                      have f6 : w3.frozen? ⟨w1.heap.size, 6, none⟩ = false := blk_frozen HP3.out.xb 6
                      obtain ⟨uA, uc, rfl⟩ := Kd.R_slice hR
                      rw [ints_len] at hR ⊢
                      have HR := Aside0.mk hR
                      have HLT := Aside0.mk (blk_lt HP1.out.xb)
                      clear hR hb3 had
                      go_wp2_with fail
                      go_meet
                      have e1 : rDraw 5 (y :: z) = 0 := rDraw_no (by decide) _
                      have e2 : rDone 5 (y :: z) = false := rDone_no (by decide) _
                      have e3 : rData 5 (y :: z) = unhexW hexz y := by unfold rData; rw [if_pos (by simp [hasD])]; rfl
                      rw [e1, e2, e3]
                      refine ⟨uA, uc, Aside0.mk (HP3.out.put 6 (.slice uA (unhexW hexz y).length uc)), Aside0.mk ?_⟩
                      have hq1 := HLT.out
                      refine Kd.R_lower (Kd.R_mono (Kd.R_step (Kd.R_bound HR.out) ?_) ?_) (by omega)
                      · rintro j ⟨_, hj, _⟩ _
                        exact Below.heap_setCell _ _ _ _ (by simp; omega)
                      · rintro j ⟨_, hj, _⟩
                        omega
                    have b5 : ((k : Int) == 5) = false := by rw [beq_eq_false_iff_ne]; omega
                    by_cases hk6 : k = 6
                    · subst hk6
                      go_wp2_with fail
                      refine (rbytes_calls y hyl _).mono ?_
                      rintro e1 w3 ⟨u, rfl, hR, hb3⟩
                      have HP3 := Aside0.mk (HP1.out.below hb3)
                      have x6 : w3.cell? ⟨w1.heap.size, 6, none⟩ = some (.slice none 0 0) := blk_cell HP3.out.xb 6
                      have f6 : w3.frozen? ⟨w1.heap.size, 6, none⟩ = false := blk_frozen HP3.out.xb 6
                      obtain ⟨uA, uc, rfl⟩ := Kd.R_slice hR
                      rw [ints_len] at hR ⊢
                      have HR := Aside0.mk hR
                      have HLT := Aside0.mk (blk_lt HP1.out.xb)
                      clear hR hb3 had
                      go_wp2_with fail
                      go_meet
                      have e1 : rDraw 6 (y :: z) = 0 := rDraw_no (by decide) _
                      have e2 : rDone 6 (y :: z) = false := rDone_no (by decide) _
                      have e3 : rData 6 (y :: z) = unhexW hexz y := by unfold rData; rw [if_pos (by simp [hasD])]; rfl
                      rw [e1, e2, e3]
                      refine ⟨uA, uc, Aside0.mk (HP3.out.put 6 (.slice uA (unhexW hexz y).length uc)), Aside0.mk ?_⟩
                      have hq1 := HLT.out
                      refine Kd.R_lower (Kd.R_mono (Kd.R_step (Kd.R_bound HR.out) ?_) ?_) (by omega)
                      · rintro j ⟨_, hj, _⟩ _
                        exact Below.heap_setCell _ _ _ _ (by simp; omega)
                      · rintro j ⟨_, hj, _⟩
                        omega
                    have b6 : ((k : Int) == 6) = false := by rw [beq_eq_false_iff_ne]; omega
                    have e1 : rDraw k (y :: z) = 0 := rDraw_no hk0 _
                    have e2 : rDone k (y :: z) = false := rDone_no hk7 _
                    have e3 : rData k (y :: z) = [] := rData_no (by simp [hasD]; omega) _
                    have HE := Aside0.mk (And.intro e1 (And.intro e2 e3))
                    clear e1 e2 e3 hk0 hk7 hk9 hk4 hk5 hk6
                    go_wp2_with fail
                    go_meet
                    rw [HE.out.1, HE.out.2.1, HE.out.2.2]
                    exact ⟨none, 0, HP1, Aside0.mk (Kd.R_nil _ _ _ _ _)⟩
                case rest =>
                  clear HP1
                  obtain ⟨dA, dc, HP1, HD⟩ := hcut
                  have hdd := rData_len k p3 HM3.out
                  have hdr := rDraw_lt k p3
                  have hrr : readR l = ⟨k, v1, v2, rDraw k p3, rDone k p3, v3, rData k p3⟩ := by
                    unfold readR
                    rw [HSR.out]
                    simp only [List.headD_cons, List.tail_cons]
                    rw [HK.out, HSV.out]
                    dsimp only
                    rw [HSV2.out]
                    dsimp only
                    rw [HSV3.out]
                  have HRR := Aside0.mk hrr
                  clear hrr
                  generalize rDraw k p3 = v4 at *
                  generalize rDone k p3 = v5 at *
                  generalize rData k p3 = v6 at *
                  have HPP : Aside0 (parseR l = if l = [] ∨ textP ⟨k, v1, v2, v4, v5, v3, v6⟩ ≠ l then none else some ⟨k, v1, v2, v4, v5, v3, v6⟩) := Aside0.mk (by unfold parseR; rw [HRR.out])
                  have hby : By wc (.slice dA v6.length dc) v6 := by
                    obtain ⟨_, h1, h2⟩ := Kd.R_reads' HD.out
                    rw [ints_len] at h2
                    exact ⟨dA, dc, rfl, h1, h2⟩
                  have HBY := Aside0.mk hby
                  clear hby
                  have z0 : wc.cell? ⟨w.heap.size, 0, none⟩ = some (.int .u8 0) := blk_cell HP1.out.rb 0
                  have z1 : wc.cell? ⟨w.heap.size, 1, none⟩ = some (.int .u8 0) := blk_cell HP1.out.rb 1
                  have z2 : wc.cell? ⟨w.heap.size, 2, none⟩ = some (.int .i64 0) := blk_cell HP1.out.rb 2
                  have z3 : wc.cell? ⟨w.heap.size, 3, none⟩ = some (.int .u32 0) := blk_cell HP1.out.rb 3
                  have z4 : wc.cell? ⟨w.heap.size, 4, none⟩ = some (.bool false) := blk_cell HP1.out.rb 4
                  have z5 : wc.cell? ⟨w.heap.size, 5, none⟩ = some (.string ⟨#[]⟩) := blk_cell HP1.out.rb 5
                  have z6 : wc.cell? ⟨w.heap.size, 6, none⟩ = some (.slice none 0 0) := blk_cell HP1.out.rb 6
                  have f0 : wc.frozen? ⟨w.heap.size, 0, none⟩ = false := blk_frozen HP1.out.rb 0
                  have f1 : wc.frozen? ⟨w.heap.size, 1, none⟩ = false := blk_frozen HP1.out.rb 1
                  have f2 : wc.frozen? ⟨w.heap.size, 2, none⟩ = false := blk_frozen HP1.out.rb 2
                  have f3 : wc.frozen? ⟨w.heap.size, 3, none⟩ = false := blk_frozen HP1.out.rb 3
                  have f4 : wc.frozen? ⟨w.heap.size, 4, none⟩ = false := blk_frozen HP1.out.rb 4
                  have f5 : wc.frozen? ⟨w.heap.size, 5, none⟩ = false := blk_frozen HP1.out.rb 5
                  have f6 : wc.frozen? ⟨w.heap.size, 6, none⟩ = false := blk_frozen HP1.out.rb 6
                  have x0 : wc.cell? ⟨w1.heap.size, 0, none⟩ = some (.int .u8 k) := blk_cell HP1.out.xb 0
                  have x1 : wc.cell? ⟨w1.heap.size, 1, none⟩ = some (.int .u8 v1) := blk_cell HP1.out.xb 1
                  have x2 : wc.cell? ⟨w1.heap.size, 2, none⟩ = some (.int .i64 v2) := blk_cell HP1.out.xb 2
                  have x3 : wc.cell? ⟨w1.heap.size, 3, none⟩ = some (.int .u32 v4) := blk_cell HP1.out.xb 3
                  have x4 : wc.cell? ⟨w1.heap.size, 4, none⟩ = some (.bool v5) := blk_cell HP1.out.xb 4
                  have x5 : wc.cell? ⟨w1.heap.size, 5, none⟩ = some (.string (str v3)) := blk_cell HP1.out.xb 5
                  have x6 : wc.cell? ⟨w1.heap.size, 6, none⟩ = some (.slice dA v6.length dc) := blk_cell HP1.out.xb 6
                  by_cases hl0 : l = []
                  · have HL0 := Aside0.mk hl0
                    have e0 : ((str l).toList == []) = true := by rw [str_toList, hl0]; rfl
                    have e1 : (str l).toList.isEmpty = true := by rw [str_toList, hl0]; rfl
                    clear hl0
                    go_wp2_with fail
                    have hb5 := put7_any HP1.out.rb (.int .u8 0) (.int .u8 0) (.int .i64 0) (.int .u32 0) (.bool false) (.string ⟨#[]⟩) (.slice none 0 0)
                    have HB5 := put7_below (HP1.out.bw.trans (HP1.out.bel.mono (Nat.le_of_lt HP1.out.g0))) (Nat.le_refl _) (.int .u8 0) (.int .u8 0) (.int .i64 0) (.int .u32 0) (.bool false) (.string ⟨#[]⟩) (.slice none 0 0)
                    clear z0 f0 z1 f1 z2 f2 z3 f3 z4 f4 z5 f5 z6 f6 x0 x1 x2 x3 x4 x5 x6
                    unfold put7 at hb5 HB5
                    generalize (((((((wc.setCell ⟨w.heap.size, 0, none⟩ (.int .u8 0)).setCell ⟨w.heap.size, 1, none⟩ (.int .u8 0)).setCell ⟨w.heap.size, 2, none⟩ (.int .i64 0)).setCell ⟨w.heap.size, 3, none⟩ (.int .u32 0)).setCell ⟨w.heap.size, 4, none⟩ (.bool false)).setCell ⟨w.heap.size, 5, none⟩ (.string ⟨#[]⟩)).setCell ⟨w.heap.size, 6, none⟩ (.slice none 0 0)) = w9 at *
                    have z0 : w9.cell? ⟨w.heap.size, 0, none⟩ = some (.int .u8 0) := blk_cell hb5 0
                    have z1 : w9.cell? ⟨w.heap.size, 1, none⟩ = some (.int .u8 0) := blk_cell hb5 1
                    have z2 : w9.cell? ⟨w.heap.size, 2, none⟩ = some (.int .i64 0) := blk_cell hb5 2
                    have z3 : w9.cell? ⟨w.heap.size, 3, none⟩ = some (.int .u32 0) := blk_cell hb5 3
                    have z4 : w9.cell? ⟨w.heap.size, 4, none⟩ = some (.bool false) := blk_cell hb5 4
                    have z5 : w9.cell? ⟨w.heap.size, 5, none⟩ = some (.string ⟨#[]⟩) := blk_cell hb5 5
                    have z6 : w9.cell? ⟨w.heap.size, 6, none⟩ = some (.slice none 0 0) := blk_cell hb5 6
                    refine bodyPost_ret (v := .tuple #[.agg zero33, .int .i64 60]) (by simp [results, Tryd.results13, go_sem, z0, z1, z2, z3, z4, z5, z6] <;> rfl) rfl ?_
                    rw [HPP.out, if_pos (.inl HL0.out)]
                    exact ⟨zero33.toList, rfl, k32_mkM w9 _ _ (s32 Stp.nil) (v6 := .slice none 0 0) (Kd.R_nil _ _ _ _ _), HB5⟩
                  · have HL0 := Aside0.mk hl0
                    have e0 : ((str l).toList == []) = false := by rw [str_toList]; simpa using hl0
                    have e1 : (str l).toList.isEmpty = false := by rw [str_toList]; simpa using hl0
                    clear hl0
                    go_wp2_with fail
                    refine (rtext15_calls hk256 (by omega) hdr (by omega) (by omega) hv3 hdd _ HBY.out).mono ?_
                    rintro ee w3 ⟨rfl, hb3⟩
                    have HP3 := Aside0.mk (HP1.out.below hb3)
                    have HD3 := Aside0.mk (Kd.R_below HD.out hb3)
                    clear hb3 z0 f0 z1 f1 z2 f2 z3 f3 z4 f4 z5 f5 z6 f6 x0 x1 x2 x3 x4 x5 x6
                    have z0 : w3.cell? ⟨w.heap.size, 0, none⟩ = some (.int .u8 0) := blk_cell HP3.out.rb 0
                    have z1 : w3.cell? ⟨w.heap.size, 1, none⟩ = some (.int .u8 0) := blk_cell HP3.out.rb 1
                    have z2 : w3.cell? ⟨w.heap.size, 2, none⟩ = some (.int .i64 0) := blk_cell HP3.out.rb 2
                    have z3 : w3.cell? ⟨w.heap.size, 3, none⟩ = some (.int .u32 0) := blk_cell HP3.out.rb 3
                    have z4 : w3.cell? ⟨w.heap.size, 4, none⟩ = some (.bool false) := blk_cell HP3.out.rb 4
                    have z5 : w3.cell? ⟨w.heap.size, 5, none⟩ = some (.string ⟨#[]⟩) := blk_cell HP3.out.rb 5
                    have z6 : w3.cell? ⟨w.heap.size, 6, none⟩ = some (.slice none 0 0) := blk_cell HP3.out.rb 6
                    have f0 : w3.frozen? ⟨w.heap.size, 0, none⟩ = false := blk_frozen HP3.out.rb 0
                    have f1 : w3.frozen? ⟨w.heap.size, 1, none⟩ = false := blk_frozen HP3.out.rb 1
                    have f2 : w3.frozen? ⟨w.heap.size, 2, none⟩ = false := blk_frozen HP3.out.rb 2
                    have f3 : w3.frozen? ⟨w.heap.size, 3, none⟩ = false := blk_frozen HP3.out.rb 3
                    have f4 : w3.frozen? ⟨w.heap.size, 4, none⟩ = false := blk_frozen HP3.out.rb 4
                    have f5 : w3.frozen? ⟨w.heap.size, 5, none⟩ = false := blk_frozen HP3.out.rb 5
                    have f6 : w3.frozen? ⟨w.heap.size, 6, none⟩ = false := blk_frozen HP3.out.rb 6
                    have x0 : w3.cell? ⟨w1.heap.size, 0, none⟩ = some (.int .u8 k) := blk_cell HP3.out.xb 0
                    have x1 : w3.cell? ⟨w1.heap.size, 1, none⟩ = some (.int .u8 v1) := blk_cell HP3.out.xb 1
                    have x2 : w3.cell? ⟨w1.heap.size, 2, none⟩ = some (.int .i64 v2) := blk_cell HP3.out.xb 2
                    have x3 : w3.cell? ⟨w1.heap.size, 3, none⟩ = some (.int .u32 v4) := blk_cell HP3.out.xb 3
                    have x4 : w3.cell? ⟨w1.heap.size, 4, none⟩ = some (.bool v5) := blk_cell HP3.out.xb 4
                    have x5 : w3.cell? ⟨w1.heap.size, 5, none⟩ = some (.string (str v3)) := blk_cell HP3.out.xb 5
                    have x6 : w3.cell? ⟨w1.heap.size, 6, none⟩ = some (.slice dA v6.length dc) := blk_cell HP3.out.xb 6
                    by_cases ht : textP ⟨k, v1, v2, v4, v5, v3, v6⟩ = l
                    · have HT := Aside0.mk ht
                      rw [ht]
                      clear ht
                      go_wp2_with fail
                      have hb5 := put7_any HP3.out.rb (.int .u8 k) (.int .u8 v1) (.int .i64 v2) (.int .u32 v4) (.bool v5) (.string (str v3)) (.slice dA v6.length dc)
                      have HB5 := put7_below (HP3.out.bw.trans (HP3.out.bel.mono (Nat.le_of_lt HP3.out.g0))) (Nat.le_refl _) (.int .u8 k) (.int .u8 v1) (.int .i64 v2) (.int .u32 v4) (.bool v5) (.string (str v3)) (.slice dA v6.length dc)
                      have HR5 := Kd.R_lower (Kd.R_mono (ok' := fun _ => True) (Kd.R_step (w1 := put7 w3 w.heap.size (.int .u8 k) (.int .u8 v1) (.int .i64 v2) (.int .u32 v4) (.bool v5) (.string (str v3)) (.slice dA v6.length dc)) HD3.out (fun j hj _ => put7_far (by have := HP3.out.g0; omega) (.int .u8 k) (.int .u8 v1) (.int .i64 v2) (.int .u32 v4) (.bool v5) (.string (str v3)) (.slice dA v6.length dc))) (fun _ _ => trivial)) (Nat.le_of_lt HP3.out.g0)
                      clear z0 f0 z1 f1 z2 f2 z3 f3 z4 f4 z5 f5 z6 f6 x0 x1 x2 x3 x4 x5 x6
                      unfold put7 at hb5 HB5 HR5
                      generalize (((((((w3.setCell ⟨w.heap.size, 0, none⟩ (.int .u8 k)).setCell ⟨w.heap.size, 1, none⟩ (.int .u8 v1)).setCell ⟨w.heap.size, 2, none⟩ (.int .i64 v2)).setCell ⟨w.heap.size, 3, none⟩ (.int .u32 v4)).setCell ⟨w.heap.size, 4, none⟩ (.bool v5)).setCell ⟨w.heap.size, 5, none⟩ (.string (str v3))).setCell ⟨w.heap.size, 6, none⟩ (.slice dA v6.length dc)) = w9 at *
                      have z0 : w9.cell? ⟨w.heap.size, 0, none⟩ = some (.int .u8 k) := blk_cell hb5 0
                      have z1 : w9.cell? ⟨w.heap.size, 1, none⟩ = some (.int .u8 v1) := blk_cell hb5 1
                      have z2 : w9.cell? ⟨w.heap.size, 2, none⟩ = some (.int .i64 v2) := blk_cell hb5 2
                      have z3 : w9.cell? ⟨w.heap.size, 3, none⟩ = some (.int .u32 v4) := blk_cell hb5 3
                      have z4 : w9.cell? ⟨w.heap.size, 4, none⟩ = some (.bool v5) := blk_cell hb5 4
                      have z5 : w9.cell? ⟨w.heap.size, 5, none⟩ = some (.string (str v3)) := blk_cell hb5 5
                      have z6 : w9.cell? ⟨w.heap.size, 6, none⟩ = some (.slice dA v6.length dc) := blk_cell hb5 6
                      refine bodyPost_ret (v := .tuple #[.agg #[.int .u8 k, .int .u8 v1, .int .i64 v2, .int .u32 v4, .bool v5, .string (str v3), .slice dA v6.length dc], .int .i64 0]) (by simp [results, Tryd.results13, go_sem, z0, z1, z2, z3, z4, z5, z6] <;> rfl) rfl ?_
                      rw [HPP.out, if_neg (fun h => h.elim HL0.out (fun h2 => h2 HT.out))]
                      exact ⟨[.int .u8 k, .int .u8 v1, .int .i64 v2, .int .u32 v4, .bool v5, .string (str v3), .slice dA v6.length dc], rfl, k32_mkM w9 _ _ (s32 ⟨k, v1, v2, v4, v5, v3, v6⟩) (v6 := .slice dA v6.length dc) HR5, HB5⟩
                    · have HT := Aside0.mk ht
                      have e2 : ((str (textP ⟨k, v1, v2, v4, v5, v3, v6⟩)).toList != (str l).toList) = true := by rw [str_toList, str_toList, bne_iff_ne]; exact ht
                      have e3 : ((str (textP ⟨k, v1, v2, v4, v5, v3, v6⟩)).toList == (str l).toList) = false := by rw [str_toList, str_toList, beq_eq_false_iff_ne]; exact ht
                      clear ht
                      generalize hts : str (textP ⟨k, v1, v2, v4, v5, v3, v6⟩) = ts at *
                      go_wp2_with fail
                      have hb5 := put7_any HP3.out.rb (.int .u8 0) (.int .u8 0) (.int .i64 0) (.int .u32 0) (.bool false) (.string ⟨#[]⟩) (.slice none 0 0)
                      have HB5 := put7_below (HP3.out.bw.trans (HP3.out.bel.mono (Nat.le_of_lt HP3.out.g0))) (Nat.le_refl _) (.int .u8 0) (.int .u8 0) (.int .i64 0) (.int .u32 0) (.bool false) (.string ⟨#[]⟩) (.slice none 0 0)
                      clear z0 f0 z1 f1 z2 f2 z3 f3 z4 f4 z5 f5 z6 f6 x0 x1 x2 x3 x4 x5 x6
                      unfold put7 at hb5 HB5
                      generalize (((((((w3.setCell ⟨w.heap.size, 0, none⟩ (.int .u8 0)).setCell ⟨w.heap.size, 1, none⟩ (.int .u8 0)).setCell ⟨w.heap.size, 2, none⟩ (.int .i64 0)).setCell ⟨w.heap.size, 3, none⟩ (.int .u32 0)).setCell ⟨w.heap.size, 4, none⟩ (.bool false)).setCell ⟨w.heap.size, 5, none⟩ (.string ⟨#[]⟩)).setCell ⟨w.heap.size, 6, none⟩ (.slice none 0 0)) = w9 at *
                      have z0 : w9.cell? ⟨w.heap.size, 0, none⟩ = some (.int .u8 0) := blk_cell hb5 0
                      have z1 : w9.cell? ⟨w.heap.size, 1, none⟩ = some (.int .u8 0) := blk_cell hb5 1
                      have z2 : w9.cell? ⟨w.heap.size, 2, none⟩ = some (.int .i64 0) := blk_cell hb5 2
                      have z3 : w9.cell? ⟨w.heap.size, 3, none⟩ = some (.int .u32 0) := blk_cell hb5 3
                      have z4 : w9.cell? ⟨w.heap.size, 4, none⟩ = some (.bool false) := blk_cell hb5 4
                      have z5 : w9.cell? ⟨w.heap.size, 5, none⟩ = some (.string ⟨#[]⟩) := blk_cell hb5 5
                      have z6 : w9.cell? ⟨w.heap.size, 6, none⟩ = some (.slice none 0 0) := blk_cell hb5 6
                      refine bodyPost_ret (v := .tuple #[.agg zero33, .int .i64 60]) (by simp [results, Tryd.results13, go_sem, z0, z1, z2, z3, z4, z5, z6] <;> rfl) rfl ?_
                      rw [HPP.out, if_pos (.inr HT.out)]
                      exact ⟨zero33.toList, rfl, k32_mkM w9 _ _ (s32 Stp.nil) (v6 := .slice none 0 0) (Kd.R_nil _ _ _ _ _), HB5⟩
end Go.Proofs.YtfjjikabinelgaaDoor
