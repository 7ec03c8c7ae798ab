/- Walk of script.Lines: a text's lines as steps. -/
import Derived.Test.YtfjjikabinelgaaDoorDecode
import Derived.Test.YtfjjikabinelgaaDoorCut
namespace Go.Proofs.YtfjjikabinelgaaDoor
open Go.RowKit Go.Maps Go.Proofs Go.Proofs.YtfjjikabinelgaaDoorW.PrintWords Go.Proofs.YtfjjikabinelgaaDoorW.PrintLast Go.Proofs.YtfjjikabinelgaaDoorW.PrintMore Sc PScriptLines
set_option linter.unusedVariables false
set_option linter.unusedSimpArgs false

theorem C_cells {w : World} {ad : Addr} {xs : List (List UInt8)} (h : Kd.C Kd.string w (some ad) (xs.map str).length (xs.map str)) (k : Nat) (hk : k < xs.length) : w.cell? (ad.add k) = some (.string (str xs[k])) := by
  obtain ⟨ad', cs, e, _, hK, hc⟩ := Kd.C_get h (str []) (k : Int) (by omega) (by rw [List.length_map]; omega)
  injection e with e
  subst e
  have ek : (k : Int).toNat = k := by omega
  obtain rfl : cs = [.string ((xs.map str).getD (k : Int).toNat (str []))] := hK
  have h0 := hc 0 _ rfl
  rw [show (k : Int).toNat * Kd.string.sz + 0 = k from by show (k : Int).toNat * 1 + 0 = k; omega, ek] at h0
  rw [h0, List.getD_eq_getElem?_getD, List.getElem?_map, List.getElem?_eq_getElem hk]
  rfl

/-- Lines' round: done, k lines behind. -/
structure LL (w : World) (N : Nat) (ls : List (List UInt8)) (done : List Stp) (k : Nat) (v : Value) (wr : World) : Prop where
  out : Kd.R k33 33 wr w.heap.size (fun j => N ≤ j) v (done.map s33)
  bel : Below w.heap.size w wr
  le : k ≤ ls.length
  len : done.length ≤ k
  all : linesP 0 ls = (done ++ (linesP k (ls.drop k)).1, (linesP k (ls.drop k)).2)

theorem LL.skip {w wr w2 : World} {N : Nat} {ls : List (List UInt8)} {done : List Stp} {k : Nat} {v : Value} (H : LL w N ls done k v wr) (hk : k < ls.length) (h : ls[k] = [] ∨ (ls[k]).head? = some 35) (hb : Below wr.heap.size wr w2) : LL w N ls done (k + 1) v w2 := by
  refine ⟨Kd.R_below H.out hb, H.bel.trans (hb.mono H.bel.size), hk, by have := H.len; omega, ?_⟩
  have ha := H.all
  rw [List.drop_eq_getElem_cons hk, linesP, if_pos h] at ha
  exact ha
theorem LL.stop {w wr : World} {N : Nat} {ls : List (List UInt8)} {done : List Stp} {k : Nat} {v : Value} (H : LL w N ls done k v wr) (hk : k < ls.length) (h : ¬ (ls[k] = [] ∨ (ls[k]).head? = some 35)) (hp : parseS ls[k] = none) : linesP 0 ls = (done, k + 1) := by
  have ha := H.all
  rw [List.drop_eq_getElem_cons hk, linesP, if_neg h, hp] at ha
  rw [ha, List.append_nil]
theorem LL.next {w wr w2 : World} {N : Nat} {ls : List (List UInt8)} {done : List Stp} {k : Nat} {v v1 : Value} {x : Stp} (H : LL w N ls done k v wr) (hk : k < ls.length) (h : ¬ (ls[k] = [] ∨ (ls[k]).head? = some 35)) (hp : parseS ls[k] = some x)
    (hR : Kd.R k33 33 w2 w.heap.size (fun j => N ≤ j) v1 (done.map s33 ++ [s33 x])) (hb : Below w.heap.size w w2) : LL w N ls (done ++ [x]) (k + 1) v1 w2 := by
  refine ⟨by rw [List.map_append]; exact hR, hb, hk, by have := H.len; simp; omega, ?_⟩
  have ha := H.all
  rw [List.drop_eq_getElem_cons hk, linesP, if_neg h, hp] at ha
  rw [ha, List.append_assoc]
  rfl
theorem LL.end_ {w wr : World} {N : Nat} {ls : List (List UInt8)} {done : List Stp} {v : Value} (H : LL w N ls done ls.length v wr) : linesP 0 ls = (done, 0) := by
  have ha := H.all
  rw [List.drop_length, linesP, List.append_nil] at ha
  exact ha

def LinesP (w : World) (r : List Stp × Nat) (e : Ending) (w' : World) : Prop :=
  ∃ v, e = .returned (.tuple #[v, .int .i64 r.2, .int .i64 (if r.2 = 0 then 0 else 60)]) ∧ Below w.heap.size w w' ∧ Kd.R k33 33 w' w.heap.size (fun _ => True) v (r.1.map s33)

set_option maxHeartbeats 4000000 in
set_option maxRecDepth 100000 in
theorem lines_calls (l : List UInt8) (hl : l.length ≤ 65536) (w : World) (he : Env w) :
    Calls Tryd.prog 17 #[.string (str l)] w fun e w' => LinesP w (linesP 0 (spl 10 l)) e w' := by
  have HE := Aside0.mk he
  have hsz : ¬ (65536 : Int) < l.length := by omega
  have hcnt : (spl 10 l).length ≤ 65537 := by
    have h1 := spl_len 10 l
    have h2 : l.count 10 ≤ l.length := List.count_le_length
    omega
  have HSM : Aside0 (∀ s ∈ spl 10 l, s.length ≤ 1000000) := Aside0.mk (fun s hs => Nat.le_trans (spl_small 10 l s hs) (by omega))
  clear he
  go_enter Tryd.func17, Tryd.ntmps17
  go_wp2_with fail
  refine (split_named 10 l (by omega) _ HE.out).mono ?_
  rintro e w1 ⟨b1, rfl, hb1, hs1, hC1⟩
  have HB1 := Aside0.mk hb1
  have HC1 := Aside0.mk hC1
  clear hb1 hC1 hsz
  generalize hls : spl 10 l = ls at *
  have HLS := Aside0.mk hls
  clear hls
  go_wp2_with fail
  go_loopw [5, 6, 7, 8, 9, 16] (fun v _ _ _ _ i wr => ∃ done k A c, v = .slice A done.length c ∧ i = .int .i64 (k : Nat) ∧ k ≤ ls.length ∧ Aside0 (LL w w1.heap.size ls done k v wr) ∧ Aside0 (Below w1.heap.size w1 wr)) (fun _ _ _ _ _ i _ => ls.length - (intOf i).toNat)
  case atStart => exact ⟨[], 0, none, 0, rfl, rfl, Nat.zero_le _, Aside0.mk ⟨Kd.R_nil _ _ _ _ _, HB1.out, Nat.zero_le _, Nat.le_refl _, by simp⟩, Aside0.mk (Below.refl _ _)⟩
  case round =>
    obtain ⟨done, k, vA, vc, rfl, rfl, hk, HL, HW⟩ := hrel
    by_cases hlt : k < ls.length
    · have hcell : wr.cell? ⟨b1, k, none⟩ = some (.string (str ls[k])) := by
        have h0 := C_cells HC1.out k hlt
        rw [add_plain] at h0
        exact pw_cell_below HW.out h0
      cases hx : ls[k] with
      | nil =>
        have HSK : Aside0 (ls[k] = [] ∨ (ls[k]).head? = some 35) := Aside0.mk (Or.inl hx)
        rw [hx] at hcell
        clear hx
        have e1 : (str []).toList = [] := str_toList []
        go_wp2_with fail
        go_roundw
        case rel => exact ⟨done, k + 1, vA, vc, rfl, by simp, hlt, Aside0.mk (HL.out.skip hlt HSK.out (Below.refl _ _)), HW⟩
        case measure => simp [intOf]; omega
      | cons x r =>
        rw [hx] at hcell
        have HX := Aside0.mk hx
        clear hx
        have e1 : (str (x :: r)).toList = x :: r := str_toList _
        have e2 : (str (x :: r)).size = (x :: r).length := rfl
        have ga : (str (x :: r))[0]'(by rw [e2]; simp) = x := rfl
        by_cases h35 : x = 35
        · subst h35
          go_wp2_with fail
          go_roundw
          case rel => exact ⟨done, k + 1, vA, vc, rfl, by simp, hlt, Aside0.mk (HL.out.skip hlt (by rw [HX.out]; exact Or.inr rfl) (Below.refl _ _)), HW⟩
          case measure => simp [intOf]; omega
        · have hq : ((x.toNat : Int) == 35) = false := by
            rw [beq_eq_false_iff_ne]
            intro h
            exact h35 (UInt8.toNat_inj.1 (by show x.toNat = 35; omega))
          have HNO : Aside0 (¬ (ls[k] = [] ∨ (ls[k]).head? = some 35)) := Aside0.mk (by
            rw [HX.out]
            rintro (h | h)
            · cases h
            · exact h35 (by simpa using h))
          clear h35
          have hxl : (x :: r).length ≤ 1000000 := by
            rw [← HX.out]
            exact HSM.out _ (List.getElem_mem hlt)
          go_wp2_with fail
          refine (parse_calls (x :: r) hxl wr (HE.out.below (HB1.out.trans (HW.out.mono HB1.out.size)))).mono ?_
          rintro e w2 ⟨cs, rfl, hM, hb2⟩
          have HM := Aside0.mk hM
          have HB2 := Aside0.mk hb2
          obtain ⟨v6, rfl, h6⟩ := k33_openM hM
          obtain ⟨A6, c6, rfl⟩ := Kd.R_slice h6
          clear hM hb2 h6
          cases hpr : parseS (x :: r) with
          | none =>
            rw [hpr] at HM
            have HST := Aside0.mk (HL.out.stop hlt HNO.out (by rw [HX.out]; exact hpr))
            clear hpr
            go_wp2_with fail
            refine bodyPost_ret (v := .tuple #[.slice vA done.length vc, .int .i64 ((k + 1 : Nat) : Int), .int .i64 60]) (by first | (simp [results, Tryd.results17, go_sem]; done) | (simp [results, Tryd.results17, go_sem]; rfl)) rfl ?_
            rw [HLS.out, HST.out]
            exact ⟨_, rfl, HL.out.bel.trans ((HB2.out.alloc HB2.out.size _).mono HL.out.bel.size), Kd.R_mono (Kd.R_below HL.out.out (HB2.out.alloc HB2.out.size _)) (fun _ _ => trivial)⟩
          | some st =>
            rw [hpr] at HM
            have HNX := Aside0.mk hpr
            clear hpr
            have HM2 := Aside0.mk (k33.M_lower HL.out.bel.size (k33.M_bound HM.out))
            dsimp only [Option.getD_some] at HM2
            go_wp2_with (at_builtin; refine Kd.R_append k33 (w0 := w) w.heap.size rfl (.tmp 39) (.tmp 41) 25 33 (.agg zero33) 64 rfl Tryd.underlying25 info33 rfl (by decide) (by decide) (.slice vA done.length vc) (done.map s33) (s33 st) _ (fun j => w1.heap.size ≤ j) _ rfl (by first | rfl | (go_simp; done) | (simp; done)) (k33.M_move (fun k hk => Below.heap_alloc _ _ _ hk.2.2.1) HM2.out) ?aK (fun j hj => by have h1 := HW.out.size; have h2 := HB2.out.size; simp at hj; omega) (Kd.R_below HL.out.out (HB2.out.alloc HB2.out.size _)) (HL.out.bel.trans ((HB2.out.alloc HB2.out.size _).mono HL.out.bel.size)) (HL.out.bel.trans ((HB2.out.alloc HB2.out.size _).mono HL.out.bel.size)).size (by rw [List.length_map]; have := HL.out.len; omega) ?_; (case aK => intro k hk; have h1 := hk.2.1; have h2 := Kd.R_lt HL.out.out; have h3 := HW.out.size; exact ⟨by omega, fun e => by have := h2 k e.symm; omega⟩); intro v1 w3 hR3 hb3 hg3 hat3)
            have HW3 : Below w1.heap.size w1 w3 := (HW.out.trans ((HB2.out.alloc HB2.out.size _).mono HW.out.size)).grown hg3 (by have h1 := HW.out.size; have h2 := HB2.out.size; simp; omega) (fun j hj => HL.out.out.1 j hj)
            obtain ⟨xA, xc, rfl⟩ := Kd.R_slice hR3
            have el : (done.map s33 ++ [s33 st]).length = done.length + 1 := by simp
            rw [el] at hR3 ⊢
            go_roundw
            case rel => exact ⟨done ++ [st], k + 1, xA, xc, by simp, by simp, hlt, Aside0.mk (HL.out.next hlt HNO.out (by rw [HX.out]; exact HNX.out) hR3 hb3), Aside0.mk HW3⟩
            case measure => simp [intOf]; omega
    · have ek : k = ls.length := by omega
      subst ek
      have HEND := Aside0.mk HL.out.end_
      clear hlt
      go_wp2_with fail
      refine bodyPost_ret (v := .tuple #[.slice vA done.length vc, .int .i64 ((0 : Nat) : Int), .int .i64 0]) (by first | (simp [results, Tryd.results17, go_sem]; done) | (simp [results, Tryd.results17, go_sem]; rfl)) rfl ?_
      rw [HLS.out, HEND.out]
      exact ⟨_, rfl, HL.out.bel, Kd.R_mono HL.out.out (fun _ _ => trivial)⟩
end Go.Proofs.YtfjjikabinelgaaDoor
