/- Walk of script.Text: a step as a line. -/
import Derived.Test.YtfjjikabinelgaaDoorTextA
import Derived.Deep.RegionHeld3
import Derived.IntWalk
namespace Go.Proofs.YtfjjikabinelgaaDoor
open Go.RowKit Go.Maps Go.Proofs Go.Proofs.YtfjjikabinelgaaDoorW.PrintWords Go.Proofs.YtfjjikabinelgaaDoorW.PrintLast Go.Proofs.YtfjjikabinelgaaDoorW.PrintMore Sc PScriptLines
set_option linter.unusedVariables false
set_option linter.unusedSimpArgs false

set_option maxHeartbeats 4000000 in
set_option maxRecDepth 100000 in
theorem text_step {k s d : Nat} {n : Int} {e : Bool} {p dat : List UInt8} {dv : Value} (hk : k < 256) (hs : s < 256) (hn0 : -9223372036854775808 ≤ n) (hn1 : n ≤ 9223372036854775807) (hd : d < 4294967296) (hp : p.length ≤ 1000000) (hdl : dat.length ≤ 1000000)
    (w : World) (hv : By w dv dat) (he : Env w) :
    Calls Tryd.prog 14 #[.agg #[.int .u8 k, .int .u8 s, .int .i64 n, .int .u32 d, .bool e, .string (str p), dv]] w fun r w' => r = .returned (.string (str (textP ⟨k, s, n, d, e, p, dat⟩))) ∧ Below w.heap.size w w' := by
  have HV := Aside0.mk hv
  have HE := Aside0.mk he
  obtain ⟨dA, dc, rfl, _, _⟩ := hv
  clear he
  obtain ⟨res, hres⟩ : ∃ res, res = textP ⟨k, s, n, d, e, p, dat⟩ := ⟨_, rfl⟩
  rw [← hres]
  have HRES := Aside0.mk hres
  clear hres
  have hno : ¬ has ⟨k, s, n, d, e, p, dat⟩ → res = [] := fun h => by rw [HRES.out]; exact if_neg h
  by_cases h1 : k ≤ 9
  rotate_left
  · have HN := Aside0.mk (hno (fun h => h1 h.1))
    have h1' : (9 : Int) < k := by omega
    clear hno h1
    go_enter Tryd.func14, Tryd.ntmps14
    go_wp2_with fail
    go_ret
    rw [HN.out]
    exact ⟨rfl, (Below.refl _ _).alloc (Nat.le_refl _) _⟩
  by_cases h2 : s ≤ 1
  rotate_left
  · have HN := Aside0.mk (hno (fun h => h2 h.2.1))
    have h1' : ¬ (9 : Int) < k := by omega
    have h2' : (1 : Int) < s := by omega
    clear hno h1 h2
    go_enter Tryd.func14, Tryd.ntmps14
    go_wp2_with fail
    go_ret
    rw [HN.out]
    exact ⟨rfl, (Below.refl _ _).alloc (Nat.le_refl _) _⟩
  by_cases h3 : 0 ≤ n
  rotate_left
  · have HN := Aside0.mk (hno (fun h => h3 h.2.2.1))
    have h1' : ¬ (9 : Int) < k := by omega
    have h2' : ¬ (1 : Int) < s := by omega
    have h3' : n < 0 := by omega
    clear hno h1 h2 h3
    go_enter Tryd.func14, Tryd.ntmps14
    go_wp2_with fail
    go_ret
    rw [HN.out]
    exact ⟨rfl, (Below.refl _ _).alloc (Nat.le_refl _) _⟩
  by_cases h4 : n ≤ 1099511627776
  rotate_left
  · have HN := Aside0.mk (hno (fun h => h4 h.2.2.2.1))
    have h1' : ¬ (9 : Int) < k := by omega
    have h2' : ¬ (1 : Int) < s := by omega
    have h3' : ¬ n < 0 := by omega
    have h4' : 1099511627776 < n := by omega
    clear hno h1 h2 h3 h4
    go_enter Tryd.func14, Tryd.ntmps14
    go_wp2_with fail
    go_ret
    rw [HN.out]
    exact ⟨rfl, (Below.refl _ _).alloc (Nat.le_refl _) _⟩
  have h1' : ¬ (9 : Int) < k := by omega
  have h2' : ¬ (1 : Int) < s := by omega
  have h3' : ¬ n < 0 := by omega
  have h4' : ¬ 1099511627776 < n := by omega
  have HNO := Aside0.mk hno
  have H1 := Aside0.mk h1
  have H2 := Aside0.mk h2
  have H3 := Aside0.mk h3
  have H4 := Aside0.mk h4
  clear hno h1 h2 h3 h4
  go_enter Tryd.func14, Tryd.ntmps14
  go_upto_region 4 with (go_at_call 24; refine (parts_calls2 k H1.out _).mono ?_; rintro e w5 ⟨rfl, rfl⟩)
  have HWB : Aside0 (Below w.heap.size w (((w.alloc (.cells #[.int .u8 k, .int .u8 s, .int .i64 n, .int .u32 d, .bool e, .string (str p), .slice dA dat.length dc] 33)).alloc (.cells #[.bool (sided k), .bool (hasN k), .bool (k0 k), .bool (k7 k), .bool (k9 k), .bool (hasD k)] 68)).alloc (.cells #[.bool (sided k), .bool (hasN k), .bool (k0 k), .bool (k7 k), .bool (k9 k), .bool (hasD k)] 68))) := Aside0.mk ((((Below.refl w.heap.size w).alloc (Nat.le_refl _) _).alloc (by simp) _).alloc (by simp <;> omega) _)
  have HXB : Aside0 ((((w.alloc (.cells #[.int .u8 k, .int .u8 s, .int .i64 n, .int .u32 d, .bool e, .string (str p), .slice dA dat.length dc] 33)).alloc (.cells #[.bool (sided k), .bool (hasN k), .bool (k0 k), .bool (k7 k), .bool (k9 k), .bool (hasD k)] 68)).alloc (.cells #[.bool (sided k), .bool (hasN k), .bool (k0 k), .bool (k7 k), .bool (k9 k), .bool (hasD k)] 68)).heap[w.heap.size]? = some (.cells #[.int .u8 k, .int .u8 s, .int .i64 n, .int .u32 d, .bool e, .string (str p), .slice dA dat.length dc] 33 (0, 0))) := Aside0.mk (by
    rw [Below.heap_alloc _ _ _ (by simp <;> omega), Below.heap_alloc _ _ _ (by simp <;> omega)]
    exact heap_alloc_new w _)
  have HHB : Aside0 ((((w.alloc (.cells #[.int .u8 k, .int .u8 s, .int .i64 n, .int .u32 d, .bool e, .string (str p), .slice dA dat.length dc] 33)).alloc (.cells #[.bool (sided k), .bool (hasN k), .bool (k0 k), .bool (k7 k), .bool (k9 k), .bool (hasD k)] 68)).alloc (.cells #[.bool (sided k), .bool (hasN k), .bool (k0 k), .bool (k7 k), .bool (k9 k), .bool (hasD k)] 68)).heap[w.heap.size + 1 + 1]? = some (.cells #[.bool (sided k), .bool (hasN k), .bool (k0 k), .bool (k7 k), .bool (k9 k), .bool (hasD k)] 68 (0, 0))) := Aside0.mk (by
    have := heap_alloc_new ((w.alloc (.cells #[.int .u8 k, .int .u8 s, .int .i64 n, .int .u32 d, .bool e, .string (str p), .slice dA dat.length dc] 33)).alloc (.cells #[.bool (sided k), .bool (hasN k), .bool (k0 k), .bool (k7 k), .bool (k9 k), .bool (hasD k)] 68)) (.cells #[.bool (sided k), .bool (hasN k), .bool (k0 k), .bool (k7 k), .bool (k9 k), .bool (hasD k)] 68)
    simp only [World.size_alloc] at this
    exact this)
  generalize (((w.alloc (.cells #[.int .u8 k, .int .u8 s, .int .i64 n, .int .u32 d, .bool e, .string (str p), .slice dA dat.length dc] 33)).alloc (.cells #[.bool (sided k), .bool (hasN k), .bool (k0 k), .bool (k7 k), .bool (k9 k), .bool (hasD k)] 68)).alloc (.cells #[.bool (sided k), .bool (hasN k), .bool (k0 k), .bool (k7 k), .bool (k9 k), .bool (hasD k)] 68)) = WB at *
  have hidx := idx_wsu k H1.out
  have hx0 : WB.cell? ⟨w.heap.size, 0, none⟩ = some (.int .u8 k) := blk_cell HXB.out 0
  have hlx := blk_lt HXB.out
  have HALL : Aside0 (∀ W', Below WB.heap.size WB W' → W'.cell? ⟨w.heap.size, 0, none⟩ = some (.int .u8 k)) := Aside0.mk (fun W' hb => pw_cell_below hb hx0)
  go_cut [4] (fun v4 wc => ∃ q, v4 = .pointer (some ⟨q, 0, none⟩) ∧ Aside0 (TX WB q wc [word k]))
  case first =>
    go_region_held3 (fun w' => w'.cell? ⟨w.heap.size, 0, none⟩ = some (.int .u8 k)) (exact HALL.out _ (by repeat (first | exact Below.refl _ _ | apply below_alloc | apply pw_below_drewN | apply below_drew1 | (refine Below.setCell ?_ (by simp <;> omega) _)))) (first | (go_at_call 33; refine (words_calls _).mono ?_; rintro e w6 ⟨rfl, rfl⟩))
    all_goals
      go_wp2_with fail
      go_meet
      first | (exact ⟨_, rfl, Aside0.mk (tx_one (b := WB.heap.size + 1) (by (refine blk_drew ?_; first | exact blk_new (by simp) | (refine blk_old (by simp <;> omega) ?_; first | exact blk_new (by simp) | (refine blk_old (by simp <;> omega) ?_; exact blk_new (by simp))))) (by (refine blk_drew ?_; first | exact blk_new (by simp) | (refine blk_old (by simp <;> omega) ?_; first | exact blk_new (by simp) | (refine blk_old (by simp <;> omega) ?_; exact blk_new (by simp))))) (by repeat (first | exact Below.refl _ _ | apply below_alloc | apply pw_below_drewN | apply below_drew1)) (by omega) (by omega) (by omega))⟩) | (exact ⟨_, rfl, Aside0.mk (tx_one (b := WB.heap.size + 1 + 1) (by (refine blk_drew ?_; first | exact blk_new (by simp) | (refine blk_old (by simp <;> omega) ?_; first | exact blk_new (by simp) | (refine blk_old (by simp <;> omega) ?_; exact blk_new (by simp))))) (by (refine blk_drew ?_; first | exact blk_new (by simp) | (refine blk_old (by simp <;> omega) ?_; first | exact blk_new (by simp) | (refine blk_old (by simp <;> omega) ?_; exact blk_new (by simp))))) (by repeat (first | exact Below.refl _ _ | apply below_alloc | apply pw_below_drewN | apply below_drew1)) (by omega) (by omega) (by omega))⟩) | (exact ⟨_, rfl, Aside0.mk (tx_one (b := WB.heap.size) (by (refine blk_drew ?_; first | exact blk_new (by simp) | (refine blk_old (by simp <;> omega) ?_; first | exact blk_new (by simp) | (refine blk_old (by simp <;> omega) ?_; exact blk_new (by simp))))) (by (refine blk_drew ?_; first | exact blk_new (by simp) | (refine blk_old (by simp <;> omega) ?_; first | exact blk_new (by simp) | (refine blk_old (by simp <;> omega) ?_; exact blk_new (by simp))))) (by repeat (first | exact Below.refl _ _ | apply below_alloc | apply pw_below_drewN | apply below_drew1)) (by omega) (by omega) (by omega))⟩)
  case rest =>
    obtain ⟨q, rfl, HT⟩ := hcut
    clear hx0 hidx HALL hlx
    have HFH : Aside0 (∀ (j : Nat) W', Below WB.heap.size WB W' → W'.cell? ⟨w.heap.size + 1 + 1, j, none⟩ = (#[.bool (sided k), .bool (hasN k), .bool (k0 k), .bool (k7 k), .bool (k9 k), .bool (hasD k)] : Array Value)[j]?) := Aside0.mk (fun j W' hb => blk_cell ((hb.block _ (blk_lt HHB.out)).trans HHB.out) j)
    have HFX : Aside0 (∀ (j : Nat) W', Below WB.heap.size WB W' → W'.cell? ⟨w.heap.size, j, none⟩ = (#[.int .u8 k, .int .u8 s, .int .i64 n, .int .u32 d, .bool e, .string (str p), .slice dA dat.length dc] : Array Value)[j]?) := Aside0.mk (fun j W' hb => blk_cell ((hb.block _ (blk_lt HXB.out)).trans HXB.out) j)
    have HEV : Aside0 (∀ W', Below WB.heap.size WB W' → Env W') := Aside0.mk (fun W' hb => HE.out.below (HWB.out.trans (hb.mono HWB.out.size)))
    have HBY : Aside0 (∀ W', Below WB.heap.size WB W' → By W' (.slice dA dat.length dc) dat) := Aside0.mk (fun W' hb => HV.out.below (HWB.out.trans (hb.mono HWB.out.size)))
    have hh4 : wc.cell? ⟨w.heap.size + 1 + 1, 4, none⟩ = some (.bool (k9 k)) := HFH.out 4 _ HT.out.bel
    have hx5 : wc.cell? ⟨w.heap.size, 5, none⟩ = some (.string (str p)) := HFX.out 5 _ HT.out.bel
    go_upto_region 6 with fail
    go_cut [41] (fun v41 wc => v41 = .bool (k9 k && decide (checkN p ≠ 0)) ∧ Aside0 (TX WB q wc [word k]))
    case first =>
      by_cases h9 : k9 k = true
      · have HS9 := Aside0.mk h9
        rw [h9] at hh4
        clear h9
        go_wp2_with fail
        refine (check_calls p (by omega) wc (HEV.out _ HT.out.bel)).mono ?_
        rintro r w6 ⟨rfl, hb6⟩
        have HT6 := Aside0.mk (HT.out.below hb6)
        clear hb6
        by_cases hn : checkN p = 0
        · rw [hn]
          have ed : decide (checkN p ≠ 0) = false := by simp [hn]
          have HED := Aside0.mk ed
          clear hn ed
          go_wp2_with fail
          go_meet
          exact ⟨by rw [HED.out, Bool.and_false], HT6⟩
        · have hz : (checkN p != 0) = true := by simpa using hn
          have HN := Aside0.mk hn
          clear hn
          go_wp2_with fail
          go_meet
          exact ⟨by rw [HS9.out, decide_eq_true HN.out]; rfl, HT6⟩
      · have h9' : k9 k = false := by simpa using h9
        have HS9 := Aside0.mk h9'
        rw [h9'] at hh4
        clear h9 h9'
        go_wp2_with fail
        go_meet
        exact ⟨by rw [HS9.out]; rfl, HT⟩
    case rest =>
      obtain ⟨rfl, HT2⟩ := hcut
      clear HT hh4 hx5
      cases hbad : k9 k && decide (checkN p ≠ 0) with
      | true =>
        have HN := Aside0.mk (HNO.out (fun h => by
          simp only [Bool.and_eq_true, decide_eq_true_eq] at hbad
          exact hbad.2 (h.2.2.2.2 (by simpa [k9] using hbad.1))))
        clear hbad
        go_wp2_with fail
        go_ret
        rw [HN.out]
        exact ⟨rfl, HWB.out.trans (HT2.out.bel.mono HWB.out.size)⟩
      | false =>
        have HGD := Aside0.mk hbad
        clear hbad
        have hx4 : wc.cell? ⟨w.heap.size, 4, none⟩ = some (.bool e) := HFX.out 4 _ HT2.out.bel
        go_upto_if 43 with fail
        generalize hwe : wc = we at *
        clear hwe
        go_cut [6] (fun v6 wx => v6 = .string (str (oneD e)) ∧ wx = we)
        case first =>
          cases e with
          | true =>
            go_wp2_with fail
            go_meet
            exact ⟨rfl, rfl⟩
          | false =>
            go_wp2_with fail
            go_meet
            exact ⟨rfl, rfl⟩
        case rest =>
          obtain ⟨rfl, rfl⟩ := hcut
          clear hx4
          go_upto_region 11 with fail
          have hh : wc.cell? ⟨w.heap.size + 1 + 1, 0, none⟩ = some (.bool (sided k)) := HFH.out 0 _ HT2.out.bel
          have hx : wc.cell? ⟨w.heap.size, 1, none⟩ = some (.int .u8 s) := HFX.out 1 _ HT2.out.bel
          have hw : IntKind.i64.wrap (s : Int) = s := IntWalk.i64_in _ (by omega)
          go_cut [] (fun wc => Aside0 (TX WB q wc (addL (sided k) [word k] (Lib.decDigits s))))
          case first =>
            go_region_held3 (fun w' => w'.cell? ⟨w.heap.size + 1 + 1, 0, none⟩ = some (.bool (sided k)) ∧ w'.cell? ⟨w.heap.size, 1, none⟩ = some (.int .u8 s)) (exact ⟨HFH.out 0 _ (by repeat (first | exact HT3.out.bel | exact HCA.out | exact HT2.out.bel | apply below_alloc | apply pw_below_drewN | apply below_drew1)), HFX.out 1 _ (by repeat (first | exact HT3.out.bel | exact HCA.out | exact HT2.out.bel | apply below_alloc | apply pw_below_drewN | apply below_drew1))⟩) (first | (go_at_call 35; refine (itoa_calls s (by omega) (by omega) _ (HEV.out _ (by repeat (first | exact HT2.out.bel | apply below_alloc | apply pw_below_drewN | apply below_drew1)))).mono ?_; rintro r w6 ⟨rfl, hb6⟩; have HCA : Aside0 (Below WB.heap.size WB w6) := Aside0.mk (Below.trans (by repeat (first | exact HT2.out.bel | apply below_alloc | apply pw_below_drewN | apply below_drew1)) (hb6.mono (Below.size (by repeat (first | exact HT2.out.bel | apply below_alloc | apply pw_below_drewN | apply below_drew1))))); have HDA : Aside0 (TX WB q w6 [word k]) := Aside0.mk (TX.below (HT2.out.below (by repeat (first | exact Below.refl _ _ | apply below_alloc | apply pw_below_drewN | apply below_drew1))) hb6); clear hb6) | (go_at_call 34; refine (add_calls (xs := [word k]) (HDA.out.below (by repeat (first | exact Below.refl _ _ | apply below_alloc | apply pw_below_drewN | apply below_drew1))) (Nat.le_trans (Nat.le_refl 1) (by decide)) (sided k) (Lib.decDigits s)).mono ?_; rintro r w7 ⟨rfl, ht7⟩; have HT3 : Aside0 (TX WB q w7 (addL (sided k) [word k] (Lib.decDigits s))) := Aside0.mk ht7; clear ht7))
            all_goals (go_wp2_with fail)
            all_goals go_meet
            all_goals exact Aside0.mk (HT3.out.below (by repeat (first | exact Below.refl _ _ | apply below_alloc | apply pw_below_drewN | apply below_drew1)))
          case rest =>
            have HT3 := hcut
            clear hcut hh hx HT2
            go_upto_region 12 with fail
            have hh : wc.cell? ⟨w.heap.size + 1 + 1, 1, none⟩ = some (.bool (hasN k)) := HFH.out 1 _ HT3.out.bel
            have hx : wc.cell? ⟨w.heap.size, 2, none⟩ = some (.int .i64 n) := HFX.out 2 _ HT3.out.bel
            go_cut [] (fun wc => Aside0 (TX WB q wc (addL (hasN k) (addL (sided k) [word k] (Lib.decDigits s)) (Lib.decDigits n.toNat))))
            case first =>
              go_region_held3 (fun w' => w'.cell? ⟨w.heap.size + 1 + 1, 1, none⟩ = some (.bool (hasN k)) ∧ w'.cell? ⟨w.heap.size, 2, none⟩ = some (.int .i64 n)) (exact ⟨HFH.out 1 _ (by repeat (first | exact HT4.out.bel | exact HCB.out | exact HT3.out.bel | apply below_alloc | apply pw_below_drewN | apply below_drew1)), HFX.out 2 _ (by repeat (first | exact HT4.out.bel | exact HCB.out | exact HT3.out.bel | apply below_alloc | apply pw_below_drewN | apply below_drew1))⟩) (first | (go_at_call 35; refine (itoa_calls n H3.out H4.out _ (HEV.out _ (by repeat (first | exact HT3.out.bel | apply below_alloc | apply pw_below_drewN | apply below_drew1)))).mono ?_; rintro r w6 ⟨rfl, hb6⟩; have HCB : Aside0 (Below WB.heap.size WB w6) := Aside0.mk (Below.trans (by repeat (first | exact HT3.out.bel | apply below_alloc | apply pw_below_drewN | apply below_drew1)) (hb6.mono (Below.size (by repeat (first | exact HT3.out.bel | apply below_alloc | apply pw_below_drewN | apply below_drew1))))); have HDB : Aside0 (TX WB q w6 (addL (sided k) [word k] (Lib.decDigits s))) := Aside0.mk (TX.below (HT3.out.below (by repeat (first | exact Below.refl _ _ | apply below_alloc | apply pw_below_drewN | apply below_drew1))) hb6); clear hb6) | (go_at_call 34; refine (add_calls (xs := (addL (sided k) [word k] (Lib.decDigits s))) (HDB.out.below (by repeat (first | exact Below.refl _ _ | apply below_alloc | apply pw_below_drewN | apply below_drew1))) (Nat.le_trans (Nat.le_trans (addL_len _ _ _) (Nat.succ_le_succ (Nat.le_refl 1))) (by decide)) (hasN k) (Lib.decDigits n.toNat)).mono ?_; rintro r w7 ⟨rfl, ht7⟩; have HT4 : Aside0 (TX WB q w7 (addL (hasN k) (addL (sided k) [word k] (Lib.decDigits s)) (Lib.decDigits n.toNat))) := Aside0.mk ht7; clear ht7))
              all_goals (go_wp2_with fail)
              all_goals go_meet
              all_goals exact Aside0.mk (HT4.out.below (by repeat (first | exact Below.refl _ _ | apply below_alloc | apply pw_below_drewN | apply below_drew1)))
            case rest =>
              have HT4 := hcut
              clear hcut hh hx HT3
              go_upto_region 13 with fail
              have hh : wc.cell? ⟨w.heap.size + 1 + 1, 2, none⟩ = some (.bool (k0 k)) := HFH.out 2 _ HT4.out.bel
              have hx : wc.cell? ⟨w.heap.size, 3, none⟩ = some (.int .u32 d) := HFX.out 3 _ HT4.out.bel
              have hw2 : IntKind.u64.wrap (d : Int) = d := IntWalk.u64_in _ (by omega)
              go_cut [] (fun wc => Aside0 (TX WB q wc (addL (k0 k) (addL (hasN k) (addL (sided k) [word k] (Lib.decDigits s)) (Lib.decDigits n.toNat)) (Lib.decDigits d))))
              case first =>
                go_region_held3 (fun w' => w'.cell? ⟨w.heap.size + 1 + 1, 2, none⟩ = some (.bool (k0 k)) ∧ w'.cell? ⟨w.heap.size, 3, none⟩ = some (.int .u32 d)) (exact ⟨HFH.out 2 _ (by repeat (first | exact HT5.out.bel | exact HCC.out | exact HT4.out.bel | apply below_alloc | apply pw_below_drewN | apply below_drew1)), HFX.out 3 _ (by repeat (first | exact HT5.out.bel | exact HCC.out | exact HT4.out.bel | apply below_alloc | apply pw_below_drewN | apply below_drew1))⟩) (first | (go_at_call 36; refine (format_calls d (by omega) _ (Env.pow10 (HEV.out _ (by repeat (first | exact HT4.out.bel | apply below_alloc | apply pw_below_drewN | apply below_drew1))))).mono ?_; rintro r w6 ⟨rfl, hb6⟩; have HCC : Aside0 (Below WB.heap.size WB w6) := Aside0.mk (Below.trans (by repeat (first | exact HT4.out.bel | apply below_alloc | apply pw_below_drewN | apply below_drew1)) (hb6.mono (Below.size (by repeat (first | exact HT4.out.bel | apply below_alloc | apply pw_below_drewN | apply below_drew1))))); have HDC : Aside0 (TX WB q w6 (addL (hasN k) (addL (sided k) [word k] (Lib.decDigits s)) (Lib.decDigits n.toNat))) := Aside0.mk (TX.below (HT4.out.below (by repeat (first | exact Below.refl _ _ | apply below_alloc | apply pw_below_drewN | apply below_drew1))) hb6); clear hb6) | (go_at_call 34; refine (add_calls (xs := (addL (hasN k) (addL (sided k) [word k] (Lib.decDigits s)) (Lib.decDigits n.toNat))) (HDC.out.below (by repeat (first | exact Below.refl _ _ | apply below_alloc | apply pw_below_drewN | apply below_drew1))) (Nat.le_trans (Nat.le_trans (addL_len _ _ _) (Nat.succ_le_succ (Nat.le_trans (addL_len _ _ _) (Nat.succ_le_succ (Nat.le_refl 1))))) (by decide)) (k0 k) (Lib.decDigits d)).mono ?_; rintro r w7 ⟨rfl, ht7⟩; have HT5 : Aside0 (TX WB q w7 (addL (k0 k) (addL (hasN k) (addL (sided k) [word k] (Lib.decDigits s)) (Lib.decDigits n.toNat)) (Lib.decDigits d))) := Aside0.mk ht7; clear ht7))
                all_goals (go_wp2_with fail)
                all_goals go_meet
                all_goals exact Aside0.mk (HT5.out.below (by repeat (first | exact Below.refl _ _ | apply below_alloc | apply pw_below_drewN | apply below_drew1)))
              case rest =>
                have HT5 := hcut
                clear hcut hh hx HT4
                go_upto_region 14 with fail
                have hh : wc.cell? ⟨w.heap.size + 1 + 1, 3, none⟩ = some (.bool (k7 k)) := HFH.out 3 _ HT5.out.bel
                go_cut [] (fun wc => Aside0 (TX WB q wc (addL (k7 k) (addL (k0 k) (addL (hasN k) (addL (sided k) [word k] (Lib.decDigits s)) (Lib.decDigits n.toNat)) (Lib.decDigits d)) (oneD e))))
                case first =>
                  go_wp2_with (go_at_call 34; refine (add_calls (xs := (addL (k0 k) (addL (hasN k) (addL (sided k) [word k] (Lib.decDigits s)) (Lib.decDigits n.toNat)) (Lib.decDigits d))) (HT5.out.below (by repeat (first | exact Below.refl _ _ | apply below_alloc | apply pw_below_drewN | apply below_drew1))) (Nat.le_trans (Nat.le_trans (addL_len _ _ _) (Nat.succ_le_succ (Nat.le_trans (addL_len _ _ _) (Nat.succ_le_succ (Nat.le_trans (addL_len _ _ _) (Nat.succ_le_succ (Nat.le_refl 1))))))) (by decide)) (k7 k) (oneD e)).mono ?_; rintro r w7 ⟨rfl, ht7⟩; have HT6 : Aside0 (TX WB q w7 (addL (k7 k) (addL (k0 k) (addL (hasN k) (addL (sided k) [word k] (Lib.decDigits s)) (Lib.decDigits n.toNat)) (Lib.decDigits d)) (oneD e))) := Aside0.mk ht7; clear ht7)
                  all_goals (go_wp2_with fail)
                  all_goals go_meet
                  all_goals exact Aside0.mk (HT6.out.below (by repeat (first | exact Below.refl _ _ | apply below_alloc | apply pw_below_drewN | apply below_drew1)))
                case rest =>
                  have HT6 := hcut
                  clear hcut hh HT5
                  go_upto_region 15 with fail
                  have hh : wc.cell? ⟨w.heap.size + 1 + 1, 4, none⟩ = some (.bool (k9 k)) := HFH.out 4 _ HT6.out.bel
                  have hx : wc.cell? ⟨w.heap.size, 5, none⟩ = some (.string (str p)) := HFX.out 5 _ HT6.out.bel
                  go_cut [] (fun wc => Aside0 (TX WB q wc (addL (k9 k) (addL (k7 k) (addL (k0 k) (addL (hasN k) (addL (sided k) [word k] (Lib.decDigits s)) (Lib.decDigits n.toNat)) (Lib.decDigits d)) (oneD e)) p)))
                  case first =>
                    go_wp2_with (go_at_call 34; refine (add_calls (xs := (addL (k7 k) (addL (k0 k) (addL (hasN k) (addL (sided k) [word k] (Lib.decDigits s)) (Lib.decDigits n.toNat)) (Lib.decDigits d)) (oneD e))) (HT6.out.below (by repeat (first | exact Below.refl _ _ | apply below_alloc | apply pw_below_drewN | apply below_drew1))) (Nat.le_trans (Nat.le_trans (addL_len _ _ _) (Nat.succ_le_succ (Nat.le_trans (addL_len _ _ _) (Nat.succ_le_succ (Nat.le_trans (addL_len _ _ _) (Nat.succ_le_succ (Nat.le_trans (addL_len _ _ _) (Nat.succ_le_succ (Nat.le_refl 1))))))))) (by decide)) (k9 k) p).mono ?_; rintro r w7 ⟨rfl, ht7⟩; have HT7 : Aside0 (TX WB q w7 (addL (k9 k) (addL (k7 k) (addL (k0 k) (addL (hasN k) (addL (sided k) [word k] (Lib.decDigits s)) (Lib.decDigits n.toNat)) (Lib.decDigits d)) (oneD e)) p)) := Aside0.mk ht7; clear ht7)
                    all_goals (go_wp2_with fail)
                    all_goals go_meet
                    all_goals exact Aside0.mk (HT7.out.below (by repeat (first | exact Below.refl _ _ | apply below_alloc | apply pw_below_drewN | apply below_drew1)))
                  case rest =>
                    have HT7 := hcut
                    clear hcut hh hx HT6
                    go_upto_region 16 with fail
                    have hh : wc.cell? ⟨w.heap.size + 1 + 1, 5, none⟩ = some (.bool (hasD k)) := HFH.out 5 _ HT7.out.bel
                    have hx : wc.cell? ⟨w.heap.size, 6, none⟩ = some (.slice dA dat.length dc) := HFX.out 6 _ HT7.out.bel
                    go_cut [] (fun wc => Aside0 (TX WB q wc (addL (hasD k) (addL (k9 k) (addL (k7 k) (addL (k0 k) (addL (hasN k) (addL (sided k) [word k] (Lib.decDigits s)) (Lib.decDigits n.toNat)) (Lib.decDigits d)) (oneD e)) p) (hexP dat))))
                    case first =>
                      go_region_held3 (fun w' => w'.cell? ⟨w.heap.size + 1 + 1, 5, none⟩ = some (.bool (hasD k)) ∧ w'.cell? ⟨w.heap.size, 6, none⟩ = some (.slice dA dat.length dc)) (exact ⟨HFH.out 5 _ (by repeat (first | exact HT8.out.bel | exact HCF.out | exact HT7.out.bel | apply below_alloc | apply pw_below_drewN | apply below_drew1)), HFX.out 6 _ (by repeat (first | exact HT8.out.bel | exact HCF.out | exact HT7.out.bel | apply below_alloc | apply pw_below_drewN | apply below_drew1))⟩) (first | (go_at_call 37; refine (hex_calls (l := dat) hdl _ (HBY.out _ (by repeat (first | exact HT7.out.bel | apply below_alloc | apply pw_below_drewN | apply below_drew1)))).mono ?_; rintro r w6 ⟨rfl, hb6⟩; have HCF : Aside0 (Below WB.heap.size WB w6) := Aside0.mk (Below.trans (by repeat (first | exact HT7.out.bel | apply below_alloc | apply pw_below_drewN | apply below_drew1)) (hb6.mono (Below.size (by repeat (first | exact HT7.out.bel | apply below_alloc | apply pw_below_drewN | apply below_drew1))))); have HDF : Aside0 (TX WB q w6 (addL (k9 k) (addL (k7 k) (addL (k0 k) (addL (hasN k) (addL (sided k) [word k] (Lib.decDigits s)) (Lib.decDigits n.toNat)) (Lib.decDigits d)) (oneD e)) p)) := Aside0.mk (TX.below (HT7.out.below (by repeat (first | exact Below.refl _ _ | apply below_alloc | apply pw_below_drewN | apply below_drew1))) hb6); clear hb6) | (go_at_call 34; refine (add_calls (xs := (addL (k9 k) (addL (k7 k) (addL (k0 k) (addL (hasN k) (addL (sided k) [word k] (Lib.decDigits s)) (Lib.decDigits n.toNat)) (Lib.decDigits d)) (oneD e)) p)) (HDF.out.below (by repeat (first | exact Below.refl _ _ | apply below_alloc | apply pw_below_drewN | apply below_drew1))) (Nat.le_trans (Nat.le_trans (addL_len _ _ _) (Nat.succ_le_succ (Nat.le_trans (addL_len _ _ _) (Nat.succ_le_succ (Nat.le_trans (addL_len _ _ _) (Nat.succ_le_succ (Nat.le_trans (addL_len _ _ _) (Nat.succ_le_succ (Nat.le_trans (addL_len _ _ _) (Nat.succ_le_succ (Nat.le_refl 1))))))))))) (by decide)) (hasD k) (hexP dat)).mono ?_; rintro r w7 ⟨rfl, ht7⟩; have HT8 : Aside0 (TX WB q w7 (addL (hasD k) (addL (k9 k) (addL (k7 k) (addL (k0 k) (addL (hasN k) (addL (sided k) [word k] (Lib.decDigits s)) (Lib.decDigits n.toNat)) (Lib.decDigits d)) (oneD e)) p) (hexP dat))) := Aside0.mk ht7; clear ht7))
                      all_goals (go_wp2_with fail)
                      all_goals go_meet
                      all_goals exact Aside0.mk (HT8.out.below (by repeat (first | exact Below.refl _ _ | apply below_alloc | apply pw_below_drewN | apply below_drew1)))
                    case rest =>
                      have HT8 := hcut
                      clear hcut hh hx HT7
                      rw [addL_fields] at HT8
                      obtain ⟨tv, tb, tR⟩ := HT8.out.row
                      have hlist : wc.cell? ⟨q, 0, none⟩ = some tv := blk_cell tb 0
                      have hlf : (fields ⟨k, s, n, d, e, p, dat⟩).length ≤ 100 := by
                        rw [← addL_fields]
                        exact Nat.le_trans (Nat.le_trans (addL_len _ _ _) (Nat.succ_le_succ (Nat.le_trans (addL_len _ _ _) (Nat.succ_le_succ (Nat.le_trans (addL_len _ _ _) (Nat.succ_le_succ (Nat.le_trans (addL_len _ _ _) (Nat.succ_le_succ (Nat.le_trans (addL_len _ _ _) (Nat.succ_le_succ (Nat.le_trans (addL_len _ _ _) (Nat.succ_le_succ (Nat.le_refl 1))))))))))))) (by decide)
                      obtain ⟨gb, gc, rfl, gh1, gh2, _⟩ := Kd.R_form tR (by simp [fields])
                      have HTR := Aside0.mk tR
                      clear tb tR
                      have eres : res = Lib.join (((fields ⟨k, s, n, d, e, p, dat⟩).map str).map (·.data.toList)) [32] := by
                        rw [HRES.out, List.map_map, show ((fun x : ByteArray => x.data.toList) ∘ str) = id from rfl, List.map_id, join_eq]
                        exact if_pos ⟨H1.out, H2.out, H3.out, H4.out, fun h => by
                          have h0 := HGD.out
                          have hk9 : k9 k = true := by simpa [k9] using h
                          rw [hk9, Bool.true_and] at h0
                          exact Decidable.not_not.1 (of_decide_eq_false h0)⟩
                      have hjl : (Lib.join (((fields ⟨k, s, n, d, e, p, dat⟩).map str).map (·.data.toList)) [32]).length ≤ 140737488355328 := by
                        rw [List.map_map, show ((fun x : ByteArray => x.data.toList) ∘ str) = id from rfl, List.map_id, join_eq]
                        have h1 := joinc_len 32 3000000 _ (fields_len (k := k) (e := e) (by omega : s < 256) H4.out hd hp hdl)
                        have h2 := Nat.mul_le_mul_right (3000000 + 1) hlf
                        omega
                      have HRS := Aside0.mk eres
                      clear eres
                      generalize hfs : fields ⟨k, s, n, d, e, p, dat⟩ = fs at *
                      have hcells : ∀ (j : Nat) x, (fs.map str)[j]? = some x → wc.cell? ⟨gb, 0 + j, none⟩ = some (.string x) := by
                        intro j x hj
                        obtain ⟨hjl, hjx⟩ := List.getElem?_eq_some_iff.1 hj
                        have h0 := (Kd.R_cell (str []) HTR.out j (by omega) (by omega)).1
                        have ej : (j : Int).toNat = j := by omega
                        rw [ej] at h0
                        rw [Nat.zero_add, h0]
                        unfold rdOf
                        rw [ej, ← hjx, List.getD_eq_getElem?_getD, List.getElem?_eq_getElem hjl]
                        rfl
                      have HCL := Aside0.mk hcells
                      clear hcells hfs
                      have HNL := Aside0.mk hjl
                      clear hjl
                      rw [List.length_map] at hlist HTR
                      have hcap : fs.length ≤ gc := (Kd.R_reads' HTR.out).2.1
                      have HJ := Tryd.strings_Join gb 0 gc (fs.map str) ⟨#[32]⟩ wc HCL.out gh2 (by rw [List.length_map]; omega) (by rw [List.length_map]; exact hcap) HNL.out
                      rw [List.length_map] at HJ
                      have HJA := Aside0.mk HJ
                      clear HJ
                      go_wp2_with fail
                      refine HJA.out.mono ?_
                      rintro r w9 ⟨rfl, hb9⟩
                      go_wp2_with fail
                      go_ret
                      rw [HRS.out]
                      exact ⟨by rw [List.map_map]; rfl, HWB.out.trans ((HT8.out.bel.trans (hb9.mono HT8.out.bel.size)).mono HWB.out.size)⟩
end Go.Proofs.YtfjjikabinelgaaDoor
