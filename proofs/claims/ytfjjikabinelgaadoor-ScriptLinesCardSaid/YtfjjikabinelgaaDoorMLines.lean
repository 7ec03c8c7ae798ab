/- ScriptLines: the tied card holds, whatever the input. -/
import Derived.Test.YtfjjikabinelgaaDoorMRefP
import Derived.Test.YtfjjikabinelgaaDoorMRef
import Derived.Test.YtfjjikabinelgaaDoorMText
import Derived.Test.YtfjjikabinelgaaDoorMRow
import Derived.Test.YtfjjikabinelgaaDoorCards
import Derived.Test.YtfjjikabinelgaaDoorTie
import Derived.SevenTiedAt
namespace Go.Proofs.YtfjjikabinelgaaDoor
open Go.RowKit Go.Maps Go.Proofs Go.Proofs.YtfjjikabinelgaaDoorW.PrintWords Go.Proofs.YtfjjikabinelgaaDoorW.PrintLast Go.Proofs.YtfjjikabinelgaaDoorW.PrintMore Sc PScriptLines
set_option linter.unusedVariables false
set_option linter.unusedSimpArgs false

/-- The line that is read, and those behind it. -/
def restL (l : List UInt8) (a i : Nat) : List (List UInt8) := if i ≤ l.length then splA 10 ((l.drop a).take (i - a)) (l.drop i) else []
theorem rest_on {l : List UInt8} {a i : Nat} (hi : i < l.length) (h : l[i] ≠ 10) (ha : a ≤ i) : restL l a (i + 1) = restL l a i := by
  unfold restL
  rw [if_pos (by omega), if_pos (by omega), take_from l a i ha hi, List.drop_eq_getElem_cons hi, splA_push 10 _ _ _ h]
theorem rest_cut {l : List UInt8} {a i : Nat} (hi : (∃ h : i < l.length, l[i] = 10) ∨ i = l.length) : restL l a i = ((l.drop a).take (i - a)) :: restL l (i + 1) (i + 1) := by
  unfold restL
  rcases hi with ⟨hl, h⟩ | rfl
  · rw [if_pos (by omega), if_pos (by omega), List.drop_eq_getElem_cons hl, h, splA_cut, Nat.sub_self, List.take_zero, splA_nil]
  · rw [if_pos (by omega), if_neg (by omega), List.drop_length, splA_end]
theorem rest_all (l : List UInt8) : restL l 0 0 = spl 10 l := by
  unfold restL
  rw [if_pos (by omega), List.drop_zero, Nat.sub_self, List.take_zero, splA_nil]

/-- Lines' round: done, n lines behind; the line that is read began at a. -/
structure RLL (w : World) (l : List UInt8) (done : List Stp) (a n i : Nat) (v : Value) (wr : World) : Prop where
  out : Kd.R k32 32 wr w.heap.size (fun _ => True) v (done.map s32)
  bel : Below w.heap.size w wr
  fr : a ≤ i
  le : i ≤ l.length + 1
  nn : n ≤ i
  len : done.length ≤ n
  all : linesP 0 (spl 10 l) = (done ++ (linesP n (restL l a i)).1, (linesP n (restL l a i)).2)

theorem RLL.on {w wr : World} {l : List UInt8} {done : List Stp} {a n i : Nat} {v : Value} (H : RLL w l done a n i v wr) (hi : i < l.length) (h : l[i] ≠ 10) : RLL w l done a n (i + 1) v wr := by
  refine ⟨H.out, H.bel, by have := H.fr; omega, by omega, by have := H.nn; omega, H.len, ?_⟩
  rw [rest_on hi h H.fr]
  exact H.all
theorem RLL.skip {w wr : World} {l p : List UInt8} {done : List Stp} {a n i : Nat} {v : Value} (H : RLL w l done a n i v wr) (hi : (∃ h : i < l.length, l[i] = 10) ∨ i = l.length) (hp : (l.drop a).take (i - a) = p) (h : p = [] ∨ p.head? = some 35) : RLL w l done (i + 1) (n + 1) (i + 1) v wr := by
  have hil : i ≤ l.length := by rcases hi with ⟨h1, _⟩ | h1 <;> omega
  refine ⟨H.out, H.bel, Nat.le_refl _, by omega, by have := H.nn; omega, by have := H.len; omega, ?_⟩
  have ha := H.all
  rw [rest_cut hi, hp, linesP, if_pos h] at ha
  exact ha
theorem RLL.stop {w wr : World} {l p : List UInt8} {done : List Stp} {a n i : Nat} {v : Value} (H : RLL w l done a n i v wr) (hi : (∃ h : i < l.length, l[i] = 10) ∨ i = l.length) (hp : (l.drop a).take (i - a) = p) (h : ¬ (p = [] ∨ p.head? = some 35)) (hq : parseR p = none) : linesP 0 (spl 10 l) = (done, n + 1) := by
  have ha := H.all
  rw [rest_cut hi, hp, linesP, if_neg h, parse_same, hq] at ha
  rw [ha, List.append_nil]
theorem RLL.next {w wr w2 : World} {l p : List UInt8} {done : List Stp} {a n i : Nat} {v v1 : Value} {x : Stp} (H : RLL w l done a n i v wr) (hi : (∃ h : i < l.length, l[i] = 10) ∨ i = l.length) (hp : (l.drop a).take (i - a) = p) (h : ¬ (p = [] ∨ p.head? = some 35)) (hq : parseR p = some x)
    (hR : Kd.R k32 32 w2 w.heap.size (fun _ => True) v1 (done.map s32 ++ [s32 x])) (hb : Below w.heap.size w w2) : RLL w l (done ++ [x]) (i + 1) (n + 1) (i + 1) v1 w2 := by
  have hil : i ≤ l.length := by rcases hi with ⟨h1, _⟩ | h1 <;> omega
  refine ⟨by rw [List.map_append]; exact hR, hb, Nat.le_refl _, by omega, by have := H.nn; omega, by have := H.len; simp; omega, ?_⟩
  have ha := H.all
  rw [rest_cut hi, hp, linesP, if_neg h, parse_same, hq] at ha
  rw [ha, List.append_assoc]
  rfl
theorem RLL.end_ {w wr : World} {l : List UInt8} {done : List Stp} {a n : Nat} {v : Value} (H : RLL w l done a n (l.length + 1) v wr) : linesP 0 (spl 10 l) = (done, 0) := by
  have ha := H.all
  have hr : restL l a (l.length + 1) = [] := if_neg (by omega)
  rw [hr, linesP, List.append_nil] at ha
  exact ha

def RLinesP (w : World) (r : List Stp × Nat) (e : Ending) (w' : World) : Prop :=
  ∃ v, e = .returned (.tuple #[v, .int .i64 r.2, .int .i64 (if r.2 = 0 then 0 else 60)]) ∧ Below w.heap.size w w' ∧ Kd.R k32 32 w' w.heap.size (fun _ => True) v (r.1.map s32)

set_option maxHeartbeats 4000000 in
set_option maxRecDepth 100000 in
theorem rlines_calls (l : List UInt8) (hl : l.length ≤ 65536) (w : World) :
    Calls Tryd.prog 18 #[.string (str l)] w fun e w' => RLinesP w (linesP 0 (spl 10 l)) e w' := by
  have hsz : ¬ (65536 : Int) < l.length := by omega
  obtain ⟨S, hS⟩ : ∃ S, str l = S := ⟨_, rfl⟩
  have hSz : S.size = l.length := by rw [← hS]; rfl
  have HS := Aside0.mk hS
  rw [hS]
  rw [← hSz] at hsz
  have HSZ := Aside0.mk hSz
  have hmax : S.size ≤ 65536 := by omega
  clear hS hSz
  go_enter Tryd.func18, Tryd.ntmps18
  go_wp2_with fail
  go_loopw [5, 6, 7, 8] (fun v a n i wr => ∃ done fa fn fi A c, v = .slice A done.length c ∧ a = .int .i64 (fa : Nat) ∧ n = .int .i64 (fn : Nat) ∧ i = .int .i64 (fi : Nat) ∧ fa ≤ fi ∧ fn ≤ fi ∧ fi ≤ S.size + 1 ∧ Aside0 (RLL w l done fa fn fi (.slice A done.length c) wr)) (fun _ _ _ i _ => S.size + 1 - (intOf i).toNat)
  case atStart => exact ⟨[], 0, 0, 0, none, 0, rfl, rfl, rfl, rfl, Nat.le_refl _, Nat.le_refl _, by omega, Aside0.mk ⟨Kd.R_nil _ _ _ _ _, Below.refl _ _, Nat.le_refl _, by omega, Nat.le_refl _, Nat.le_refl _, by rw [rest_all]; simp⟩⟩
  case round =>
    obtain ⟨done, fa, fn, fi, vA, vc, rfl, rfl, rfl, rfl, hfa, hfn, hfi, HL⟩ := hrel
    by_cases hin : fi ≤ S.size
    · have hinz : (fi : Int) ≤ S.size := by omega
      by_cases hlt : fi < S.size
      · have hltz : (fi : Int) < S.size := by omega
        have hll : fi < l.length := by have := HSZ.out; omega
        obtain ⟨x, hx⟩ : ∃ x, l[fi] = x := ⟨_, rfl⟩
        have hget : S[fi] = x := by
          rw [← hx]
          have := HS.out
          subst this
          rfl
        have HX := Aside0.mk hx
        clear hx
        by_cases h10 : x = 10
        · have hb : ((x.toNat : Int) != 10) = false := by rw [h10]; rfl
          have HB : Aside0 ((∃ h : fi < l.length, l[fi] = 10) ∨ fi = l.length) := Aside0.mk (Or.inl ⟨hll, by rw [HX.out, h10]⟩)
          clear h10
          obtain ⟨q, hq⟩ : ∃ q, (l.drop fa).take (fi - fa) = q := ⟨_, rfl⟩
          have hex : S.extract fa fi = str q := by
            rw [← HS.out, str_extract, hq]
          have hql : q.length ≤ 1000000 := by
            rw [← hq, List.length_take, List.length_drop]
            have := HSZ.out
            omega
          have HQ := Aside0.mk hq
          have z0 : (0 : Int) ≤ fa := by omega
          have z1 : (fa : Int) ≤ fi := by omega
          clear hq
          cases q with
          | nil =>
            have e1 : (str []).toList = [] := str_toList []
            go_wp2_with fail
            go_roundw
            case rel => exact ⟨done, fi + 1, fn + 1, fi + 1, vA, vc, rfl, by go_num, by go_num, by go_num, Nat.le_refl _, by omega, by omega, Aside0.mk (HL.out.skip HB.out HQ.out (Or.inl rfl))⟩
            case measure => simp [intOf]; omega
          | cons y r =>
            have e1 : (str (y :: r)).toList = y :: r := str_toList _
            have e2 : (str (y :: r)).size = (y :: r).length := rfl
            have ga : (str (y :: r))[0]'(by rw [e2]; simp) = y := rfl
            by_cases h35 : y = 35
            · subst h35
              go_wp2_with fail
              go_roundw
              case rel => exact ⟨done, fi + 1, fn + 1, fi + 1, vA, vc, rfl, by go_num, by go_num, by go_num, Nat.le_refl _, by omega, by omega, Aside0.mk (HL.out.skip HB.out HQ.out (Or.inr rfl))⟩
              case measure => simp [intOf]; omega
            · have hq35 : ((y.toNat : Int) == 35) = false := by
                rw [beq_eq_false_iff_ne]
                intro h
                exact h35 (UInt8.toNat_inj.1 (by show y.toNat = 35; omega))
              have HNO : Aside0 (¬ ((y :: r) = [] ∨ (y :: r).head? = some 35)) := Aside0.mk (by
                rintro (h | h)
                · cases h
                · exact h35 (by simpa using h))
              clear h35
              go_wp2_with fail
              refine (rparse_calls (y :: r) hql wr).mono ?_
              rintro e w2 ⟨cs, rfl, hM, hb2⟩
              have HM := Aside0.mk hM
              have HB2 := Aside0.mk hb2
              obtain ⟨v6, rfl, h6⟩ := k32_openM hM
              obtain ⟨A6, c6, rfl⟩ := Kd.R_slice h6
              clear hM hb2 h6
              cases hpr : parseR (y :: r) with
              | none =>
                rw [hpr] at HM
                have HST := Aside0.mk (HL.out.stop HB.out HQ.out HNO.out hpr)
                clear hpr
                go_wp2_with fail
                refine bodyPost_ret (v := .tuple #[.slice vA done.length vc, .int .i64 ((fn + 1 : Nat) : Int), .int .i64 60]) (by first | (simp [results, Tryd.results18, go_sem]; done) | (simp [results, Tryd.results18, go_sem]; rfl)) rfl ?_
                rw [HST.out]
                exact ⟨_, rfl, HL.out.bel.trans ((HB2.out.alloc HB2.out.size _).mono HL.out.bel.size), Kd.R_below HL.out.out (HB2.out.alloc HB2.out.size _)⟩
              | some st =>
                rw [hpr] at HM
                have HNX := Aside0.mk hpr
                clear hpr
                have HM2 := Aside0.mk (k32.M_lower HL.out.bel.size (k32.M_bound HM.out))
                dsimp only [Option.getD_some] at HM2
                go_wp2_with (at_builtin; refine Kd.R_append k32 (w0 := w) w.heap.size rfl (.tmp 55) (.tmp 57) 27 32 (.agg zero33) 64 rfl Tryd.underlying27 info32 rfl (by decide) (by decide) (.slice vA done.length vc) (done.map s32) (s32 st) _ (fun _ => True) _ rfl (by first | rfl | (go_simp; done) | (simp; done)) (k32.M_move (fun k hk => Below.heap_alloc _ _ _ hk.2.2.1) HM2.out) ?aK (fun j hj => trivial) (Kd.R_below HL.out.out (HB2.out.alloc HB2.out.size _)) (HL.out.bel.trans ((HB2.out.alloc HB2.out.size _).mono HL.out.bel.size)) (HL.out.bel.trans ((HB2.out.alloc HB2.out.size _).mono HL.out.bel.size)).size (by rw [List.length_map]; have := HL.out.len; omega) ?_; (case aK => intro k hk; have h1 := hk.2.1; have h2 := Kd.R_lt HL.out.out; exact ⟨trivial, fun e => by have := h2 k e.symm; omega⟩); intro v1 w3 hR3 hb3 hg3 hat3)
                obtain ⟨xA, xc, rfl⟩ := Kd.R_slice hR3
                have el : (done.map s32 ++ [s32 st]).length = done.length + 1 := by simp
                rw [el] at hR3 ⊢
                go_roundw
                case rel => exact ⟨done ++ [st], fi + 1, fn + 1, fi + 1, xA, xc, by simp, by go_num, by go_num, by go_num, Nat.le_refl _, by omega, by omega, Aside0.mk (by have h := HL.out.next HB.out HQ.out HNO.out HNX.out hR3 hb3; simpa using h)⟩
                case measure => simp [intOf]; omega
        · have hb : ((x.toNat : Int) != 10) = true := by
            rw [bne_iff_ne]
            intro h
            exact h10 (UInt8.toNat_inj.1 (by show x.toNat = 10; omega))
          have HN : Aside0 (l[fi] ≠ 10) := Aside0.mk (by rw [HX.out]; exact h10)
          clear h10
          go_wp2_with fail
          go_roundw
          case rel => exact ⟨done, fa, fn, fi + 1, vA, vc, rfl, rfl, rfl, by go_num, by omega, by omega, by omega, Aside0.mk (HL.out.on hll HN.out)⟩
          case measure => simp [intOf]; omega
      · have hend : fi = S.size := by omega
        have hnlt : ¬ (fi : Int) < S.size := by omega
        have HB : Aside0 ((∃ h : fi < l.length, l[fi] = 10) ∨ fi = l.length) := Aside0.mk (Or.inr (by have := HSZ.out; omega))
        have HEQ := Aside0.mk hend
        clear hend hlt
        obtain ⟨q, hq⟩ : ∃ q, (l.drop fa).take (fi - fa) = q := ⟨_, rfl⟩
        have hex : S.extract fa fi = str q := by
          rw [← HS.out, str_extract, hq]
        have hql : q.length ≤ 1000000 := by
          rw [← hq, List.length_take, List.length_drop]
          have := HSZ.out
          omega
        have HQ := Aside0.mk hq
        have z0 : (0 : Int) ≤ fa := by omega
        have z1 : (fa : Int) ≤ fi := by omega
        clear hq
        cases q with
        | nil =>
          have e1 : (str []).toList = [] := str_toList []
          go_wp2_with fail
          go_roundw
          case rel => exact ⟨done, fi + 1, fn + 1, fi + 1, vA, vc, rfl, by go_num, by go_num, by go_num, Nat.le_refl _, by omega, by omega, Aside0.mk (HL.out.skip HB.out HQ.out (Or.inl rfl))⟩
          case measure => simp [intOf]; omega
        | cons y r =>
          have e1 : (str (y :: r)).toList = y :: r := str_toList _
          have e2 : (str (y :: r)).size = (y :: r).length := rfl
          have ga : (str (y :: r))[0]'(by rw [e2]; simp) = y := rfl
          by_cases h35 : y = 35
          · subst h35
            go_wp2_with fail
            go_roundw
            case rel => exact ⟨done, fi + 1, fn + 1, fi + 1, vA, vc, rfl, by go_num, by go_num, by go_num, Nat.le_refl _, by omega, by omega, Aside0.mk (HL.out.skip HB.out HQ.out (Or.inr rfl))⟩
            case measure => simp [intOf]; omega
          · have hq35 : ((y.toNat : Int) == 35) = false := by
              rw [beq_eq_false_iff_ne]
              intro h
              exact h35 (UInt8.toNat_inj.1 (by show y.toNat = 35; omega))
            have HNO : Aside0 (¬ ((y :: r) = [] ∨ (y :: r).head? = some 35)) := Aside0.mk (by
              rintro (h | h)
              · cases h
              · exact h35 (by simpa using h))
            clear h35
            go_wp2_with fail
            refine (rparse_calls (y :: r) hql wr).mono ?_
            rintro e w2 ⟨cs, rfl, hM, hb2⟩
            have HM := Aside0.mk hM
            have HB2 := Aside0.mk hb2
            obtain ⟨v6, rfl, h6⟩ := k32_openM hM
            obtain ⟨A6, c6, rfl⟩ := Kd.R_slice h6
            clear hM hb2 h6
            cases hpr : parseR (y :: r) with
            | none =>
              rw [hpr] at HM
              have HST := Aside0.mk (HL.out.stop HB.out HQ.out HNO.out hpr)
              clear hpr
              go_wp2_with fail
              refine bodyPost_ret (v := .tuple #[.slice vA done.length vc, .int .i64 ((fn + 1 : Nat) : Int), .int .i64 60]) (by first | (simp [results, Tryd.results18, go_sem]; done) | (simp [results, Tryd.results18, go_sem]; rfl)) rfl ?_
              rw [HST.out]
              exact ⟨_, rfl, HL.out.bel.trans ((HB2.out.alloc HB2.out.size _).mono HL.out.bel.size), Kd.R_below HL.out.out (HB2.out.alloc HB2.out.size _)⟩
            | some st =>
              rw [hpr] at HM
              have HNX := Aside0.mk hpr
              clear hpr
              have HM2 := Aside0.mk (k32.M_lower HL.out.bel.size (k32.M_bound HM.out))
              dsimp only [Option.getD_some] at HM2
              go_wp2_with (at_builtin; refine Kd.R_append k32 (w0 := w) w.heap.size rfl (.tmp 55) (.tmp 57) 27 32 (.agg zero33) 64 rfl Tryd.underlying27 info32 rfl (by decide) (by decide) (.slice vA done.length vc) (done.map s32) (s32 st) _ (fun _ => True) _ rfl (by first | rfl | (go_simp; done) | (simp; done)) (k32.M_move (fun k hk => Below.heap_alloc _ _ _ hk.2.2.1) HM2.out) ?aK (fun j hj => trivial) (Kd.R_below HL.out.out (HB2.out.alloc HB2.out.size _)) (HL.out.bel.trans ((HB2.out.alloc HB2.out.size _).mono HL.out.bel.size)) (HL.out.bel.trans ((HB2.out.alloc HB2.out.size _).mono HL.out.bel.size)).size (by rw [List.length_map]; have := HL.out.len; omega) ?_; (case aK => intro k hk; have h1 := hk.2.1; have h2 := Kd.R_lt HL.out.out; exact ⟨trivial, fun e => by have := h2 k e.symm; omega⟩); intro v1 w3 hR3 hb3 hg3 hat3)
              obtain ⟨xA, xc, rfl⟩ := Kd.R_slice hR3
              have el : (done.map s32 ++ [s32 st]).length = done.length + 1 := by simp
              rw [el] at hR3 ⊢
              go_roundw
              case rel => exact ⟨done ++ [st], fi + 1, fn + 1, fi + 1, xA, xc, by simp, by go_num, by go_num, by go_num, Nat.le_refl _, by omega, by omega, Aside0.mk (by have h := HL.out.next HB.out HQ.out HNO.out HNX.out hR3 hb3; simpa using h)⟩
              case measure => simp [intOf]; omega
    · have ek : fi = l.length + 1 := by have := HSZ.out; omega
      have hnot : ¬ (fi : Int) ≤ S.size := by omega
      have HEND : Aside0 (linesP 0 (spl 10 l) = (done, 0)) := Aside0.mk (by have h := HL.out; rw [ek] at h; exact h.end_)
      clear hin ek
      go_wp2_with fail
      refine bodyPost_ret (v := .tuple #[.slice vA done.length vc, .int .i64 ((0 : Nat) : Int), .int .i64 0]) (by first | (simp [results, Tryd.results18, go_sem]; done) | (simp [results, Tryd.results18, go_sem]; rfl)) rfl ?_
      rw [HEND.out]
      exact ⟨_, rfl, HL.out.bel, Kd.R_mono HL.out.out (fun _ _ => trivial)⟩
end Go.Proofs.YtfjjikabinelgaaDoor
namespace Go.Proofs.YtfjjikabinelgaaDoor
open Go.RowKit Go.Maps Go.Proofs Go.Proofs.YtfjjikabinelgaaDoorW.PrintWords Go.Proofs.YtfjjikabinelgaaDoorW.PrintLast Go.Proofs.YtfjjikabinelgaaDoorW.PrintMore Sc PScriptLines
set_option linter.unusedVariables false
set_option linter.unusedSimpArgs false

theorem linesP_len : ∀ (ls : List (List UInt8)) (i : Nat), (linesP i ls).1.length ≤ ls.length
  | [], i => by simp [linesP]
  | l :: r, i => by
    have h := linesP_len r (i + 1)
    unfold linesP
    split
    · simp; omega
    · split
      · simp
      · simp; omega

set_option maxHeartbeats 2000000 in
set_option maxRecDepth 100000 in
theorem slines_calls (l : List UInt8) (w : World) (he : Env w) :
    Calls Tryd.prog 5 #[.string (str l)] w fun e w' => e = .returned (.bool true) ∧ Below w.heap.size w w' := by
  have HE := Aside0.mk he
  have el : (str l).size = l.length := rfl
  clear he
  by_cases h3 : (3000 : Int) < l.length
  · go_enter Tryd.func5, Tryd.ntmps5
    go_wp2_with fail
    refine (awake_calls w HE.out).mono ?_
    rintro e w1 ⟨rfl, hb⟩
    have HBB := Aside0.mk hb
    clear hb
    go_wp2_with fail
    go_ret
    exact ⟨rfl, HBB.out⟩
  · have hlen := linesP_len (spl 10 l) 0
    have hcnt : (spl 10 l).length ≤ 3001 := by
      have h1 := spl_len 10 l
      have h2 : l.count 10 ≤ l.length := List.count_le_length
      omega
    have HL1 := Aside0.mk (lines_calls l (by omega))
    have HL2 := Aside0.mk (rlines_calls l (by omega))
    generalize linesP 0 (spl 10 l) = res at *
    obtain ⟨ds, n⟩ := res
    obtain ⟨cd, hcd⟩ : ∃ cd : Int, (if n = 0 then (0 : Int) else 60) = cd := ⟨_, rfl⟩
    have HLEN : Aside0 (ds.length ≤ 1000000) := Aside0.mk (by dsimp only at hlen; omega)
    have HCD := Aside0.mk hcd
    clear hlen hcnt hcd
    go_enter Tryd.func5, Tryd.ntmps5
    go_wp2_with fail
    refine (HL1.out w HE.out).mono ?_
    rintro e w1 ⟨u1, rfl, hb1, hR1⟩
    dsimp only at hR1 ⊢
    rw [HCD.out]
    obtain ⟨A1, c1, rfl⟩ := Kd.R_slice hR1
    have HB1 := Aside0.mk hb1
    have HR1 := Aside0.mk hR1
    clear hb1 hR1
    rw [List.length_map] at HR1
    go_wp2_with fail
    refine (HL2.out w1).mono ?_
    rintro e w2 ⟨u2, rfl, hb2, hR2⟩
    dsimp only at hR2 ⊢
    rw [HCD.out]
    obtain ⟨A2, c2, rfl⟩ := Kd.R_slice hR2
    have HB2 := Aside0.mk hb2
    have HR2 := Aside0.mk hR2
    have HR1' := Aside0.mk (Kd.R_below HR1.out hb2)
    clear hb2 hR2 HR1
    rw [List.length_map] at HR2
    go_wp2_with fail
    refine (same_calls ds HLEN.out HR1'.out HR2.out).mono ?_
    rintro e w3 ⟨rfl, hb3⟩
    have HB3 : Aside0 (Below w.heap.size w w3) := Aside0.mk ((HB1.out.trans (HB2.out.mono HB1.out.size)).trans (hb3.mono (Nat.le_trans HB1.out.size HB2.out.size)))
    clear hb3
    go_wp2_with fail
    refine (awake_calls w3 (HE.out.below HB3.out)).mono ?_
    rintro e w4 ⟨rfl, hb4⟩
    have HB4 : Aside0 (Below w.heap.size w w4) := Aside0.mk (HB3.out.trans (hb4.mono HB3.out.size))
    clear hb4
    go_wp2_with fail
    go_ret
    exact ⟨rfl, HB4.out⟩
end Go.Proofs.YtfjjikabinelgaaDoor
namespace Go.Proofs.YtfjjikabinelgaaDoor
open Go.ChangeShapes Go.WideShapes Go.ChangeAt Go.RowKit
open Go.ChangeMaps (open_string shut_string)
set_option linter.unusedVariables false

set_option maxRecDepth 100000 in
theorem lifted_lines (os : Os) (started : os.Started) (H : Type) (enc : TypeId × Value → H) :
    ReturnsInHanded {} Tryd.checked os 5 .any (fun w args => (Rows.scriptLinesSpec.pre enc Tryd.prog Tryd.f5 Rows.scriptLinesRow.domain false w args ∧ laidMetH Tryd.prog laid7 w) ∧ sizedMet enc Tryd.prog Tryd.f5 (OpenSpec.ofChange Rows.scriptLinesSpec) false w args)
      (Rows.scriptLinesSpec.post enc Tryd.prog Tryd.f5 false true false false) := by
  refine returnsInHanded_of_change_both (C := Tryd.checked) (X := fun w _ => laidMetH Tryd.prog laid7 w) (fun _ _ _ hh h => h.of_heap hh) own started (by kernel_rfl) Tryd.func5
    (ChangeSpec.witness_shaped (enc := enc) (C := Tryd.checked) (os := os) (X := fun w _ => laidMetH Tryd.prog laid7 w) false (World.laidAll Tryd.prog os laid7) #[.string ByteArray.empty] 8 (World.laidAll_os _ _ _)
      (World.shaped_of_ZipB (by kernel_rfl) (by kernel_rfl)) (by kernel_rfl) (by kernel_rfl) (by kernel_rfl) (door_met os _)) ?_
  intro W base args ds gs before hval0 hW hcnd hsz0 hL hSh _
  have hval : ∀ (j : Nat) t v, Tryd.f5.params[j]? = some t → args[j]? = some v → Value.okWide Tryd.prog W .any base t v := hval0
  have hW' := hW
  obtain ⟨p, q, hA0, hV, rfl, hfz, hnd⟩ := hW
  have hA : DataW.TrodAll enc Tryd.prog W 0 (fun _ => true) true Tryd.f5.params.toList args.toList ds p := hA0
  rw [Tryd.params5] at hA hval
  obtain ⟨v0, vs0, d0, ds0, p0, q0, hargs, rfl, rfl, h0, r0⟩ := trodAll_cons hA
  obtain ⟨rfl, rfl, rfl⟩ := trodAll_nil r0
  obtain rfl : args = #[v0] := by cases args; simp_all
  obtain ⟨rfl, rfl⟩ := trodVars_none hV
  obtain ⟨a0, rfl, rfl, rfl, y0⟩ := open_string Tryd.underlying9 (hval 0 9 v0 rfl rfl) h0
  have hE := env_of_laid hL hSh
  clear hA0 hval0 hsz0
  refine (slines_calls a0.data.toList W hE).mono fun e W' ⟨he, bel⟩ => ?_
  subst he
  exact ⟨_, rfl, _, _, _, [], _, [], hW', trodAll_mk1 (shut_bool Tryd.underlying4 _), (trodAll_cons_mk (shut_string Tryd.underlying9 y0) trodAll_mk0), rfl, bel.frame _, fun h => by cases h⟩

theorem scriptLines_holds : Rows.ScriptLinesSaid :=
  OpenClaim.holds_of_wide 5 Tryd.f5 rfl rfl rfl rfl rfl rfl rfl ⟨rfl, rfl, rfl, rfl, rfl⟩ rfl rfl rfl rfl rfl (by kernel_rfl) Tryd.func5 (by kernel_rfl)
    (of_decide_eq_true (by kernel_rfl)) (by unfold Func.isWrapper; first | (rw [if_pos (by decide +kernel)]; kernel_rfl) | (rw [if_neg (by decide +kernel)]; exact ⟨rfl, rfl⟩))
    (fun os started H enc _ => lifted_lines os started H enc)

theorem scriptLines_card_holds : Rows.ScriptLinesCardSaid :=
  Claim7.holds_tied_plain_at .later [] [.data, .data, .data, .data, .sentinel, .sentinel, .pinned] true (true, "6639d055d360be85fd07f84be864ec214fddbd2905653df85bb6eb12e661aa42") true
    scriptLines_holds (fun _ h => by cases h) (by kernel_rfl) (fun _ h => by cases h) scriptLines_row_tie rfl ⟨rfl, rfl⟩ (by kernel_rfl) rfl
    (fun f fn hf hfn => by
      obtain rfl : f = 5 := Option.some.inj ((show Tryd.prog.funcNamed "sumpter/sumpterlaw34.ScriptLines" = some 5 by kernel_rfl).symm.trans hf) |>.symm
      obtain rfl : fn = Tryd.f5 := (Option.some.inj (Tryd.func5.symm.trans hfn)).symm
      exact ⟨by kernel_rfl, fun j t ht => by
        rw [Tryd.params5] at ht
        have hm : t ∈ [9] := by simpa using Array.mem_of_getElem? ht
        have hall : ([9].all fun u => !Tryd.prog.wantsStandIn u) = true := by kernel_rfl
        exact (show Tryd.prog.wantsStandIn t = false by simpa using List.all_eq_true.1 hall t hm)⟩)
    (by kernel_rfl)
#print axioms scriptLines_card_holds
end Go.Proofs.YtfjjikabinelgaaDoor
