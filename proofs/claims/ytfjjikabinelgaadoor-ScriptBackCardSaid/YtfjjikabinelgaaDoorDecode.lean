/- Walk of script.Decode: the steps that bytes are. -/
import Derived.Test.YtfjjikabinelgaaDoorSteps
namespace Go.Proofs.YtfjjikabinelgaaDoor
open Go.RowKit Go.Maps Go.Proofs.YtfjjikabinelgaaDoorW.PrintWords Go.Proofs.YtfjjikabinelgaaDoorW.PrintLast Go.Proofs.YtfjjikabinelgaaDoorW.PrintMore Sc PScriptLines
set_option linter.unusedVariables false
set_option linter.unusedSimpArgs false

theorem info33 : (Tryd.prog.info? 33).map (fun i => (i.zero, i.size, i.bytes)) = some (some (.agg zero33), 7, 64) := by kernel_rfl

def lenOf : Value → Nat
  | .slice _ n _ => n
  | _ => 0

/-- Decode's round: done, what is left. -/
structure DL (w : World) (l : List UInt8) (done : List Stp) (rem : List UInt8) (v : Value) (wr : World) : Prop where
  rd : Rd w wr w.heap.size rem
  out : Kd.R k33 33 wr w.heap.size (fun k => k ≠ w.heap.size) v (done.map s33)
  bel : Below w.heap.size w wr
  len : done.length ≤ 4096
  all : done ++ Sc.decode (4096 - done.length) rem = Sc.decode 4096 l

theorem DL.next {w wr w2 W : World} {l : List UInt8} {done : List Stp} {rem : List UInt8} {v v1 : Value} {cs : List Value} (H : DL w l done rem v wr) (hne : rem ≠ []) (hlt : done.length < 4096)
    (hrd : Rd w W w.heap.size (Sc.step rem).2) (hg : wr.grownBy W (some w.heap.size)) (hgl : w.heap.size < wr.heap.size)
    (hR : Kd.R k33 33 w2 w.heap.size (fun k => k ≠ w.heap.size) v1 (done.map s33 ++ [s33 (Sc.step rem).1])) (hb : Below w.heap.size w w2) (hg2 : W.grownBy w2 v.ownBlock) : DL w l (done ++ [(Sc.step rem).1]) (Sc.step rem).2 v1 w2 := by
  refine ⟨?_, ?_, hb, by simp; omega, ?_⟩
  · obtain ⟨u, h1, h2⟩ := hrd
    refine ⟨u, (hg2.block _ (blk_lt h1) ?_).trans h1, h2⟩
    intro e
    exact H.out.1 _ e.symm rfl
  · rw [List.map_append]
    exact hR
  · have h := H.all
    rw [show 4096 - done.length = (4096 - (done ++ [(Sc.step rem).1]).length) + 1 by simp; omega] at h
    have e : ∀ f b, b ≠ [] → Sc.decode (f + 1) b = (Sc.step b).1 :: Sc.decode f (Sc.step b).2 := fun f b hb => if_neg hb
    rw [e _ _ hne] at h
    rw [← h, List.append_assoc]
    rfl

theorem DL.after {w wr W : World} {l : List UInt8} {done : List Stp} {rem : List UInt8} {v : Value} (H : DL w l done rem v wr) (hg : wr.grownBy W (some w.heap.size)) : Kd.R k33 33 W w.heap.size (fun k => k ≠ w.heap.size) v (done.map s33) :=
  Kd.R_grown H.out hg (fun k hk e => hk (by injection e))

set_option maxHeartbeats 2000000 in
set_option maxRecDepth 100000 in
theorem decode_calls {v : Value} {l : List UInt8} (w : World) (h : By w v l) :
    Calls Tryd.prog 10 #[v] w fun e w' => ∃ u, e = .returned u ∧ Below w.heap.size w w' ∧ Kd.R k33 33 w' w.heap.size (fun _ => True) u ((Sc.decode 4096 l).map s33) := by
  have HB := Aside0.mk h
  obtain ⟨A, c, rfl, hc, hr⟩ := h
  clear hc hr
  go_enter Tryd.func10, Tryd.ntmps10
  go_wp2_with fail
  go_loopw [4] (fun v wr => ∃ done rem A c, v = .slice A done.length c ∧ Aside0 (DL w l done rem v wr)) (fun v _ => 4096 - lenOf v)
  case atStart => exact ⟨[], l, none, 0, rfl, Aside0.mk ⟨⟨_, heap_alloc_new w _, HB.out⟩, Kd.R_nil _ _ _ _ _, (Below.refl _ _).alloc (Nat.le_refl _) _, Nat.zero_le _, rfl⟩⟩
  case round =>
    obtain ⟨done, rem, vA, vc, rfl, HS⟩ := hrel
    obtain ⟨rv, rb, rA, rc, rfl, _, _⟩ := HS.out.rd
    have hcell : wr.cell? ⟨w.heap.size, 0, none⟩ = some (.slice rA rem.length rc) := blk_cell rb 0
    have hgl := blk_lt rb
    have hlen := HS.out.len
    clear rb
    by_cases hcond : rem ≠ [] ∧ done.length < 4096
    · obtain ⟨hne, hlt⟩ := hcond
      have hpos : 0 < rem.length := List.length_pos_iff.2 hne
      have HNE := Aside0.mk hne
      clear hne
      go_wp2_with fail
      refine (step_calls HS.out.rd HS.out.bel (Nat.le_refl _)).mono ?_
      rintro e W ⟨cs, rfl, hrd, hg, hM⟩
      obtain ⟨v6, rfl, h6⟩ := k33_openM hM
      have HRD := Aside0.mk hrd
      have HG := Aside0.mk hg
      have HM := Aside0.mk (k33.M_lower HS.out.bel.size (k33.M_bound hM))
      clear hrd hg hM h6
      have HBW : Aside0 (Below w.heap.size w W) := Aside0.mk (below_only HS.out.bel (Nat.le_refl _) HG.out)
      go_wp2_with (at_builtin; refine Kd.R_append k33 (w0 := w) w.heap.size rfl (.tmp 19) (.tmp 22) 25 33 (.agg zero33) 64 rfl Tryd.underlying25 info33 rfl (by decide) (by decide) (.slice vA done.length vc) (done.map s33) (s33 (Sc.step rem).1) _ (fun k => k ≠ w.heap.size) _ rfl rfl HM.out ?aK (fun k hk => by have := HG.out.size; omega) (HS.out.after HG.out) HBW.out HBW.out.size (by rw [List.length_map]; omega) ?_; (case aK => intro k hk; have h1 := hk.2.1; have h2 := Kd.R_lt HS.out.out; exact ⟨by omega, fun e => by have := h2 k e.symm; omega⟩); intro v1 w2 hR2 hb2 hg2 hat2)
      obtain ⟨xA, xc, rfl⟩ := Kd.R_slice hR2
      have el : (done.map s33 ++ [s33 (Sc.step rem).1]).length = done.length + 1 := by simp
      rw [el] at hR2 ⊢
      go_roundw
      case rel => exact ⟨done ++ [(Sc.step rem).1], (Sc.step rem).2, xA, xc, by simp, Aside0.mk (HS.out.next HNE.out hlt HRD.out HG.out hgl hR2 hb2 hg2 (cs := []))⟩
      case measure => simp [lenOf]; omega
    · have HEND : Aside0 (done = Sc.decode 4096 l) := Aside0.mk (by
        rw [← HS.out.all]
        by_cases hr : rem = []
        · subst hr
          have : ∀ f, Sc.decode f [] = [] := by intro f; cases f <;> rfl
          rw [this, List.append_nil]
        · have hl4 : done.length = 4096 := by
            rcases Nat.lt_or_ge done.length 4096 with h | h
            · exact absurd ⟨hr, h⟩ hcond
            · omega
          rw [hl4]
          simp [Sc.decode])
      by_cases hr : rem = []
      · subst hr
        clear hcond
        go_wp2_with fail
        go_ret
        refine ⟨_, rfl, HS.out.bel, ?_⟩
        rw [← HEND.out]
        exact Kd.R_mono HS.out.out (fun _ _ => trivial)
      · have hpos : 0 < rem.length := List.length_pos_iff.2 hr
        have hl4 : done.length = 4096 := by
          rcases Nat.lt_or_ge done.length 4096 with h | h
          · exact absurd ⟨hr, h⟩ hcond
          · omega
        have hnl : ¬ ((done.length : Int) < 4096) := by omega
        clear hcond hr hl4
        go_wp2_with fail
        go_ret
        refine ⟨_, rfl, HS.out.bel, ?_⟩
        rw [← HEND.out]
        exact Kd.R_mono HS.out.out (fun _ _ => trivial)
end Go.Proofs.YtfjjikabinelgaaDoor
