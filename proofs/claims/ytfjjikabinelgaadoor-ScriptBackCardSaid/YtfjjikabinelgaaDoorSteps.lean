/- Walk of the script's reader: a step off. -/
import Derived.Test.YtfjjikabinelgaaDoorParse
import Derived.Test.YtfjjikabinelgaaDoorReader
namespace Go.Proofs.YtfjjikabinelgaaDoor
open Go.RowKit Go.Maps Go.Proofs.YtfjjikabinelgaaDoorW.PrintWords Go.Proofs.YtfjjikabinelgaaDoorW.PrintLast Go.Proofs.YtfjjikabinelgaaDoorW.PrintMore Sc PScriptLines
set_option linter.unusedVariables false
set_option linter.unusedSimpArgs false

/-! a step's parts, one behind the other -/
def dSide (k kk : Nat) : Nat := if sided kk then k / 10 % 2 else 0
def dDone (k kk : Nat) : Bool := k7 kk && decide (k / 20 % 2 = 1)
def dN (kk : Nat) (b : List UInt8) : Nat × List UInt8 := if hasN kk then one b else (0, b)
def dDraw (kk n : Nat) (b : List UInt8) : Nat × Nat × List UInt8 := if k0 kk then (n % 65, (one b).1, (one b).2) else (n, 0, b)
def dPath (kk : Nat) (b : List UInt8) : List UInt8 × List UInt8 := if k9 kk then txt 7 b else ([], b)
def lng (kk : Nat) : Nat := if kk = 4 then 15 else if kk = 6 then 7 else 63
def dData (kk : Nat) (b : List UInt8) : List UInt8 × List UInt8 := if hasD kk then txt (lng kk) b else ([], b)
def stepS (k : Nat) (b : List UInt8) : Stp × List UInt8 :=
  let n := dN (k % 10) b
  let d := dDraw (k % 10) n.1 n.2
  let p := dPath (k % 10) d.2.2
  let t := dData (k % 10) p.2
  (⟨k % 10, dSide k (k % 10), d.1, d.2.1, dDone k (k % 10), p.1, t.1⟩, t.2)

theorem stepS_eq (k : Nat) (b : List UInt8) : stepS k b = stepK k b := by
  have hk : k % 10 = 0 ∨ k % 10 = 1 ∨ k % 10 = 2 ∨ k % 10 = 3 ∨ k % 10 = 4 ∨ k % 10 = 5 ∨ k % 10 = 6 ∨ k % 10 = 7 ∨ k % 10 = 8 ∨ k % 10 = 9 := by omega
  rcases hk with h | h | h | h | h | h | h | h | h | h <;>
    simp [stepS, stepK, h, dSide, dDone, dN, dDraw, dPath, dData, lng, sided, hasN, hasD, k0, k7, k9]

theorem str_nums (l : List UInt8) : strOfNums (ints l) = str l := by
  unfold strOfNums ints str
  rw [List.map_map]
  have : ((fun n : Int => UInt8.ofNat n.toNat) ∘ fun c : UInt8 => (c.toNat : Int)) = id := by
    funext c
    simp
  rw [this, List.map_id]
theorem long_calls2 (k : Nat) (hk : k ≤ 9) (w : World) : Calls Tryd.prog 44 #[.int .u8 k] w fun e w' => e = .returned (.int .i64 (lng k : Nat)) ∧ w' = w := by
  refine (long_calls k hk w).mono ?_
  rintro e w' ⟨rfl, rfl⟩
  refine ⟨?_, rfl⟩
  unfold lng
  split
  · rfl
  · split <;> rfl
theorem lng_le (k : Nat) : lng k ≤ 63 := by unfold lng; split <;> (try split) <;> omega

/-- How step's blocks lie: the reader g, the step x, what it has h, the result. -/
structure DS (w0 W : World) (g x h kk : Nat) (w : World) (l : List UInt8) (cs : Array Value) : Prop where
  rd : Rd w0 w g l
  xb : w.heap[x]? = some (.cells cs 33 (0, 0))
  hb : w.heap[h]? = some (.cells (hv kk) 68 (0, 0))
  rb : w.heap[W.heap.size]? = some (.cells zero33 33 (0, 0))
  gro : W.grownBy w (some g)
  gw : g < W.heap.size
  rx : W.heap.size < x
  xh : x < h

theorem DS.bel {w0 W w : World} {g x h kk : Nat} {l : List UInt8} {cs : Array Value} (H : DS w0 W g x h kk w l cs) (hB : Below w0.heap.size w0 W) (hg : w0.heap.size ≤ g) : Below w0.heap.size w0 w := below_only hB hg H.gro
theorem DS.only {w0 W w w2 : World} {g x h kk : Nat} {l l2 : List UInt8} {cs : Array Value} (H : DS w0 W g x h kk w l cs) (hl : Rd w0 w2 g l2) (hg : w.grownBy w2 (some g)) : DS w0 W g x h kk w2 l2 cs := by
  have h1 := H.gw
  have h2 := H.rx
  have h3 := H.xh
  exact ⟨hl, blk_grown H.xb hg (by simp; omega), blk_grown H.hb hg (by simp; omega), blk_grown H.rb hg (by simp; omega), grown_trans' H.gro hg, h1, h2, h3⟩
theorem DS.put {w0 W w : World} {g x h kk : Nat} {l : List UInt8} {cs : Array Value} (H : DS w0 W g x h kk w l cs) (j : Nat) (u : Value) : DS w0 W g x h kk (w.setCell ⟨x, j, none⟩ u) l (cs.setIfInBounds j u) := by
  obtain ⟨v, h1, h2⟩ := H.rd
  have e1 := H.gw
  have e2 := H.rx
  have e3 := H.xh
  have e4 := H.gro
  refine ⟨⟨v, blk_far h1 (by simp; omega) u, h2⟩, blk_set H.xb j u, blk_far H.hb (by simp; omega) u, blk_far H.rb (by simp; omega) u, ⟨e4.os, e4.tape, e4.output, by simpa [World.setCell] using e4.size, fun i hi hne => ?_⟩, e1, e2, e3⟩
  exact (Below.heap_setCell w ⟨x, j, none⟩ u i (by simp; omega)).trans (e4.block i hi hne)

theorem grown_put {w w1 : World} {g : Nat} (h : w.grownBy w1 (some g)) {r : Nat} (hr : w.heap.size ≤ r) (j : Nat) (u : Value) : w.grownBy (w1.setCell ⟨r, j, none⟩ u) (some g) :=
  ⟨h.os, h.tape, h.output, by simpa [World.setCell] using h.size, fun i hi hne => (Below.heap_setCell w1 ⟨r, j, none⟩ u i (by simp; omega)).trans (h.block i hi hne)⟩
theorem put7_grown {w w1 : World} {g : Nat} (h : w.grownBy w1 (some g)) {r : Nat} (hr : w.heap.size ≤ r) (a b c d e f u : Value) : w.grownBy (put7 w1 r a b c d e f u) (some g) :=
  grown_put (grown_put (grown_put (grown_put (grown_put (grown_put (grown_put h hr 0 a) hr 1 b) hr 2 c) hr 3 d) hr 4 e) hr 5 f) hr 6 u

set_option maxHeartbeats 8000000 in
set_option maxRecDepth 100000 in
theorem step_calls {w0 w : World} {g : Nat} {l : List UInt8} (h : Rd w0 w g l) (hB : Below w0.heap.size w0 w) (hg : w0.heap.size ≤ g) :
    Calls Tryd.prog 19 #[.pointer (some ⟨g, 0, none⟩)] w fun e w' => ∃ cs : List Value, e = .returned (.agg cs.toArray) ∧ Rd w0 w' g (Sc.step l).2 ∧ w.grownBy w' (some g) ∧ k33.M w' w.heap.size (fun _ => True) (s33 (Sc.step l).1) cs := by
  have est : Sc.step l = stepS (one l).1 (one l).2 := (stepS_eq _ _).symm
  have HB := Aside0.mk hB
  have HG := Aside0.mk hg
  have HD := Aside0.mk h
  rw [est]
  have hgw : g < w.heap.size := by
    obtain ⟨v, hb, _⟩ := h
    exact blk_lt hb
  clear h hB hg est
  obtain ⟨res, hres⟩ : ∃ res, res = stepS (one l).1 (one l).2 := ⟨_, rfl⟩
  rw [← hres]
  have HRES := Aside0.mk hres
  clear hres
  have HR0 : Aside0 (Rd w0 (w.alloc (.cells zero33 33)) g l) := Aside0.mk (by
    obtain ⟨v, hb, hv⟩ := HD.out
    exact ⟨v, (Below.heap_alloc _ _ _ hgw).trans hb, hv⟩)
  have HGW := Aside0.mk hgw
  clear hgw HD
  go_enter Tryd.func19, Tryd.ntmps19
  go_wp2_with fail
  refine (one_calls HR0.out (HB.out.alloc HB.out.size _)).mono ?_
  rintro e w1 ⟨rfl, h1, hg1, hs1⟩
  have HRB : Aside0 (w1.heap[w.heap.size]? = some (.cells zero33 33 (0, 0))) := Aside0.mk (blk_grown (heap_alloc_new w (.cells zero33 33)) hg1 (by have := HGW.out; simp; omega))
  have HGR : Aside0 (w.grownBy w1 (some g)) := Aside0.mk (grown_trans' (w1 := w.alloc (.cells zero33 33)) ⟨rfl, rfl, rfl, by simp, fun i hi _ => Below.heap_alloc _ _ _ hi⟩ hg1)
  have HS1 : Aside0 (w1.heap.size = w.heap.size + 1) := Aside0.mk (by simpa using hs1)
  have hk := one_lt l
  have HR1 := Aside0.mk h1
  clear h1 hg1 hs1 HR0
  generalize (one l).1 = k at *
  generalize (one l).2 = l1 at *
  obtain ⟨kk, hkk⟩ : ∃ kk, kk = k % 10 := ⟨_, rfl⟩
  have em : (k : Int) % 10 = (kk : Int) := by rw [hkk]; rfl
  have hk9 : kk ≤ 9 := by omega
  have HKK := Aside0.mk hkk
  clear hkk
  go_upto_if 16 with (go_at_call 24; refine (parts_calls2 kk hk9 _).mono ?_; rintro e w5 ⟨rfl, rfl⟩)
  have HDS : Aside0 (DS w0 w g w1.heap.size (w1.heap.size + 1 + 1) kk (((w1.alloc (.cells #[.int .u8 kk, .int .u8 0, .int .i64 0, .int .u32 0, .bool false, .string ⟨#[]⟩, .slice none 0 0] 33)).alloc (.cells #[.bool (sided kk), .bool (hasN kk), .bool (k0 kk), .bool (k7 kk), .bool (k9 kk), .bool (hasD kk)] 68)).alloc (.cells #[.bool (sided kk), .bool (hasN kk), .bool (k0 kk), .bool (k7 kk), .bool (k9 kk), .bool (hasD kk)] 68)) l1 (cells7 kk 0 0 0 false [] (.slice none 0 0))) := Aside0.mk (by
    obtain ⟨v, h1, h2⟩ := HR1.out
    have hl := blk_lt h1
    have hb := (((Below.refl w1.heap.size w1).alloc (Nat.le_refl _) (.cells #[.int .u8 kk, .int .u8 0, .int .i64 0, .int .u32 0, .bool false, .string ⟨#[]⟩, .slice none 0 0] 33)).alloc (by simp) (.cells #[.bool (sided kk), .bool (hasN kk), .bool (k0 kk), .bool (k7 kk), .bool (k9 kk), .bool (hasD kk)] 68)).alloc (by simp; omega) (.cells #[.bool (sided kk), .bool (hasN kk), .bool (k0 kk), .bool (k7 kk), .bool (k9 kk), .bool (hasD kk)] 68)
    refine ⟨⟨v, (hb.block _ hl).trans h1, h2⟩, ?_, ?_, (hb.block _ (blk_lt HRB.out)).trans HRB.out, grown_below' HGR.out hb, HGW.out, by rw [HS1.out]; omega, by omega⟩
    · rw [Below.heap_alloc _ _ _ (by simp <;> omega), Below.heap_alloc _ _ _ (by simp <;> omega)]
      exact heap_alloc_new w1 _
    · have := heap_alloc_new ((w1.alloc (.cells #[.int .u8 kk, .int .u8 0, .int .i64 0, .int .u32 0, .bool false, .string ⟨#[]⟩, .slice none 0 0] 33)).alloc (.cells #[.bool (sided kk), .bool (hasN kk), .bool (k0 kk), .bool (k7 kk), .bool (k9 kk), .bool (hasD kk)] 68)) (.cells #[.bool (sided kk), .bool (hasN kk), .bool (k0 kk), .bool (k7 kk), .bool (k9 kk), .bool (hasD kk)] 68)
      simp only [World.size_alloc] at this
      exact this)
  clear HRB HGR HR1
  generalize (((w1.alloc (.cells #[.int .u8 kk, .int .u8 0, .int .i64 0, .int .u32 0, .bool false, .string ⟨#[]⟩, .slice none 0 0] 33)).alloc (.cells #[.bool (sided kk), .bool (hasN kk), .bool (k0 kk), .bool (k7 kk), .bool (k9 kk), .bool (hasD kk)] 68)).alloc (.cells #[.bool (sided kk), .bool (hasN kk), .bool (k0 kk), .bool (k7 kk), .bool (k9 kk), .bool (hasD kk)] 68)) = w5 at *
  obtain ⟨sd, hsd⟩ : ∃ sd, sd = k / 10 % 2 := ⟨_, rfl⟩
  have em2 : (k : Int) / 10 % 2 = (sd : Int) := by rw [hsd]; rfl
  have hsd1 : sd ≤ 1 := by omega
  have HSD := Aside0.mk hsd
  clear hsd
  go_cut [] (fun wc => Aside0 (DS w0 w g w1.heap.size (w1.heap.size + 1 + 1) kk wc l1 (cells7 kk (dSide k kk) 0 0 false [] (.slice none 0 0))))
  case first =>
    have f1 : w5.frozen? ⟨w1.heap.size, 1, none⟩ = false := blk_frozen HDS.out.xb 1
    have z1 : w5.cell? ⟨w1.heap.size, 1, none⟩ = some (.int .u8 0) := blk_cell HDS.out.xb 1
    by_cases hs : sided kk = true
    · have HS' := Aside0.mk hs
      rw [hs]
      clear hs
      go_wp2_with fail
      go_meet
      refine Aside0.mk ?_
      have e1 : dSide k kk = sd := by rw [HSD.out]; exact if_pos HS'.out
      rw [e1]
      exact HDS.out.put 1 _
    · have hs' : sided kk = false := by simpa using hs
      have HS' := Aside0.mk hs'
      clear hs
      rw [hs']
      clear hs'
      go_wp2_with fail
      go_meet
      refine Aside0.mk ?_
      have e1 : dSide k kk = 0 := if_neg (by rw [HS'.out]; decide)
      rw [e1]
      exact HDS.out
  case rest =>
    clear HDS em2 hsd1
    generalize hvs : dSide k kk = v1 at *
    have HVS := Aside0.mk hvs
    clear hvs
    obtain ⟨dd, hdd⟩ : ∃ dd, dd = k / 20 % 2 := ⟨_, rfl⟩
    have em3 : (k : Int) / 20 % 2 = (dd : Int) := by rw [hdd]; rfl
    have hd1 : dd = 0 ∨ dd = 1 := by omega
    have HDD := Aside0.mk hdd
    clear hdd
    have hh : wc.cell? ⟨w1.heap.size + 1 + 1, 3, none⟩ = some (.bool (k7 kk)) := blk_cell hcut.out.hb 3
    have f4 : wc.frozen? ⟨w1.heap.size, 4, none⟩ = false := blk_frozen hcut.out.xb 4
    have z4 : wc.cell? ⟨w1.heap.size, 4, none⟩ = some (.bool false) := blk_cell hcut.out.xb 4
    have HDS := hcut
    clear hcut
    go_upto_region 6 with fail
    go_cut [] (fun wc => Aside0 (DS w0 w g w1.heap.size (w1.heap.size + 1 + 1) kk wc l1 (cells7 kk v1 0 0 (dDone k kk) [] (.slice none 0 0))))
    case first =>
      by_cases hs : k7 kk = true
      · have HS' := Aside0.mk hs
        rw [hs] at hh
        clear hs
        rcases hd1 with rfl | rfl
        · go_wp2_with fail
          go_meet
          refine Aside0.mk ?_
          have e1 : dDone k kk = false := by unfold dDone; rw [HS'.out, ← HDD.out]; rfl
          rw [e1]
          exact HDS.out.put 4 _
        · go_wp2_with fail
          go_meet
          refine Aside0.mk ?_
          have e1 : dDone k kk = true := by unfold dDone; rw [HS'.out, ← HDD.out]; rfl
          rw [e1]
          exact HDS.out.put 4 _
      · have hs' : k7 kk = false := by simpa using hs
        have HS' := Aside0.mk hs'
        rw [hs'] at hh
        clear hs hs' hd1 em3
        go_wp2_with fail
        go_meet
        refine Aside0.mk ?_
        have e1 : dDone k kk = false := by unfold dDone; rw [HS'.out]; rfl
        rw [e1]
        exact HDS.out.put 4 _
    case rest =>
      clear HDS
      generalize hvd : dDone k kk = v4 at *
      have HVD := Aside0.mk hvd
      clear hvd em3 hd1 f4 z4 hh
      have hh : wc.cell? ⟨w1.heap.size + 1 + 1, 1, none⟩ = some (.bool (hasN kk)) := blk_cell hcut.out.hb 1
      go_upto_if 32 with fail
      have HDS := hcut
      clear hcut hh
      go_cut [] (fun wc => Aside0 (DS w0 w g w1.heap.size (w1.heap.size + 1 + 1) kk wc (dN kk l1).2 (cells7 kk v1 (dN kk l1).1 0 v4 [] (.slice none 0 0))))
      case first =>
        by_cases hs : hasN kk = true
        · have HS' := Aside0.mk hs
          rw [hs]
          clear hs
          go_wp2_with fail
          refine (one_calls HDS.out.rd (HDS.out.bel HB.out HG.out)).mono ?_
          rintro e w6 ⟨rfl, h6, hg6, _⟩
          have h6 := HDS.out.only h6 hg6
          have H6 := Aside0.mk h6
          have f1 : w6.frozen? ⟨w1.heap.size, 2, none⟩ = false := blk_frozen h6.xb 2
          have z1 : w6.cell? ⟨w1.heap.size, 2, none⟩ = some (.int .i64 0) := blk_cell h6.xb 2
          clear h6 hg6
          go_wp2_with fail
          go_meet
          refine Aside0.mk ?_
          have e1 : dN kk l1 = one l1 := if_pos HS'.out
          rw [e1]
          exact H6.out.put 2 _
        · have hs' : hasN kk = false := by simpa using hs
          have HS' := Aside0.mk hs'
          clear hs
          rw [hs']
          clear hs'
          go_wp2_with fail
          go_meet
          have e1 : dN kk l1 = (0, l1) := if_neg (by rw [HS'.out]; decide)
          refine Aside0.mk ?_
          rw [e1]
          exact HDS.out
      case rest =>
        clear HDS
        generalize hvs : dN kk l1 = vs at *
        have HVS37 := Aside0.mk hvs
        clear hvs
        obtain ⟨n2, l2⟩ := vs
        have hh : wc.cell? ⟨w1.heap.size + 1 + 1, 2, none⟩ = some (.bool (k0 kk)) := blk_cell hcut.out.hb 2
        go_upto_if 37 with fail
        have HDS := hcut
        clear hcut hh
        go_cut [] (fun wc => Aside0 (DS w0 w g w1.heap.size (w1.heap.size + 1 + 1) kk wc (dDraw kk n2 l2).2.2 (cells7 kk v1 (dDraw kk n2 l2).1 (dDraw kk n2 l2).2.1 v4 [] (.slice none 0 0))))
        case first =>
          by_cases hs : k0 kk = true
          · have HS' := Aside0.mk hs
            rw [hs]
            clear hs
            have em4 : (n2 : Int) % 65 = ((n2 % 65 : Nat) : Int) := rfl
            generalize hn3 : n2 % 65 = n3 at *
            have HN3 := Aside0.mk hn3
            clear hn3
            have f1 : wc.frozen? ⟨w1.heap.size, 2, none⟩ = false := blk_frozen HDS.out.xb 2
            have z1 : wc.cell? ⟨w1.heap.size, 2, none⟩ = some (.int .i64 n2) := blk_cell HDS.out.xb 2
            go_upto_region 10 with fail
            go_upto_region 11 with fail
            have H5 := Aside0.mk (HDS.out.put 2 (.int .i64 n3))
            clear f1 z1 HDS em4
            generalize wc.setCell ⟨w1.heap.size, 2, none⟩ (.int .i64 n3) = w5b at *
            go_wp2_with fail
            refine (one_calls H5.out.rd (H5.out.bel HB.out HG.out)).mono ?_
            rintro e w6 ⟨rfl, h6, hg6, _⟩
            have h6 := H5.out.only h6 hg6
            have H6 := Aside0.mk h6
            have f1 : w6.frozen? ⟨w1.heap.size, 3, none⟩ = false := blk_frozen h6.xb 3
            have z1 : w6.cell? ⟨w1.heap.size, 3, none⟩ = some (.int .u32 0) := blk_cell h6.xb 3
            have ho := one_lt l2
            clear h6 hg6
            generalize hoo : (one l2).1 = oo at *
            have HOO := Aside0.mk hoo
            clear hoo
            go_wp2_with fail
            go_meet
            refine Aside0.mk ?_
            have e1 : dDraw kk n2 l2 = (n2 % 65, (one l2).1, (one l2).2) := if_pos HS'.out
            rw [e1, HN3.out, HOO.out]
            exact H6.out.put 3 _
          · have hs' : k0 kk = false := by simpa using hs
            have HS' := Aside0.mk hs'
            clear hs
            rw [hs']
            clear hs'
            go_wp2_with fail
            go_meet
            have e1 : dDraw kk n2 l2 = (n2, 0, l2) := if_neg (by rw [HS'.out]; decide)
            refine Aside0.mk ?_
            rw [e1]
            exact HDS.out
        case rest =>
          clear HDS
          generalize hvs : dDraw kk n2 l2 = vs at *
          have HVS47 := Aside0.mk hvs
          clear hvs
          obtain ⟨n3, v3, l3⟩ := vs
          have hh : wc.cell? ⟨w1.heap.size + 1 + 1, 4, none⟩ = some (.bool (k9 kk)) := blk_cell hcut.out.hb 4
          go_upto_if 47 with fail
          have HDS := hcut
          clear hcut hh
          go_cut [] (fun wc => Aside0 (DS w0 w g w1.heap.size (w1.heap.size + 1 + 1) kk wc (dPath kk l3).2 (cells7 kk v1 n3 v3 v4 (dPath kk l3).1 (.slice none 0 0))))
          case first =>
            by_cases hs : k9 kk = true
            · have HS' := Aside0.mk hs
              rw [hs]
              clear hs
              go_wp2_with fail
              refine (text_calls 7 (by decide) HDS.out.rd (HDS.out.bel HB.out HG.out) HG.out).mono ?_
              rintro e w6 ⟨v, rfl, h6, hg6, hR⟩
              have h6 := HDS.out.only h6 hg6
              have H6 := Aside0.mk h6
              have f1 : w6.frozen? ⟨w1.heap.size, 5, none⟩ = false := blk_frozen h6.xb 5
              have z1 : w6.cell? ⟨w1.heap.size, 5, none⟩ = some (.string ⟨#[]⟩) := blk_cell h6.xb 5
              obtain ⟨dA, dc, rfl, _, hC⟩ := Kd.R_reads hR
              have hst := Kd.C_string (P := Tryd.prog) (src := 22) (dst := 9) (c := dc) Tryd.underlying22 Tryd.underlying5 Tryd.underlying9 hC
              rw [str_nums] at hst
              clear h6 hg6 hR hC
              go_wp2_with fail
              go_meet
              refine Aside0.mk ?_
              have e1 : dPath kk l3 = txt 7 l3 := if_pos HS'.out
              rw [e1]
              exact H6.out.put 5 _
            · have hs' : k9 kk = false := by simpa using hs
              have HS' := Aside0.mk hs'
              clear hs
              rw [hs']
              clear hs'
              go_wp2_with fail
              go_meet
              have e1 : dPath kk l3 = ([], l3) := if_neg (by rw [HS'.out]; decide)
              refine Aside0.mk ?_
              rw [e1]
              exact HDS.out
          case rest =>
            clear HDS
            generalize hvs : dPath kk l3 = vs at *
            have HVS53 := Aside0.mk hvs
            clear hvs
            obtain ⟨v5, l4⟩ := vs
            have hh : wc.cell? ⟨w1.heap.size + 1 + 1, 5, none⟩ = some (.bool (hasD kk)) := blk_cell hcut.out.hb 5
            go_upto_if 53 with fail
            have HDS := hcut
            clear hcut hh
            go_cut [] (fun wc => ∃ v, Aside0 (DS w0 w g w1.heap.size (w1.heap.size + 1 + 1) kk wc (dData kk l4).2 (cells7 kk v1 n3 v3 v4 v5 v)) ∧ Aside0 (Kd.R (Kd.int .u8) 5 wc w.heap.size (fun j => w.heap.size < j) v (ints (dData kk l4).1)))
            case first =>
              by_cases hs : hasD kk = true
              · have HS' := Aside0.mk hs
                rw [hs]
                clear hs
                have f0 : wc.cell? ⟨w1.heap.size, 0, none⟩ = some (.int .u8 kk) := blk_cell HDS.out.xb 0
                go_wp2_with (go_at_call 44; refine (long_calls2 kk hk9 _).mono ?_; rintro e w5b ⟨rfl, rfl⟩)
                refine (text_calls (lng kk) (lng_le kk) HDS.out.rd (HDS.out.bel HB.out HG.out) HG.out).mono ?_
                rintro e w6 ⟨v, rfl, h6, hg6, hR⟩
                have h6 := HDS.out.only h6 hg6
                have H6 := Aside0.mk h6
                have f1 : w6.frozen? ⟨w1.heap.size, 6, none⟩ = false := blk_frozen h6.xb 6
                have z1 : w6.cell? ⟨w1.heap.size, 6, none⟩ = some (.slice none 0 0) := blk_cell h6.xb 6
                have HLT := Aside0.mk (blk_lt HDS.out.xb)
                have HGT := Aside0.mk HDS.out.rx
                obtain ⟨dA, dc, rfl⟩ := Kd.R_slice hR
                have HR := Aside0.mk hR
                clear h6 hg6 hR
                go_wp2_with fail
                go_meet
                have e1 : dData kk l4 = txt (lng kk) l4 := if_pos HS'.out
                rw [e1]
                refine ⟨.slice dA (ints (txt (lng kk) l4).1).length dc, Aside0.mk (H6.out.put 6 _), Aside0.mk ?_⟩
                have h1 := HLT.out
                have h2 := HGT.out
                refine Kd.R_lower (Kd.R_mono (Kd.R_step (Kd.R_bound HR.out) ?_) ?_) (by omega)
                · rintro j ⟨_, hj, _⟩ _
                  exact Below.heap_setCell _ _ _ _ (by simp; omega)
                · rintro j ⟨_, hj, _⟩
                  omega
              · have hs' : hasD kk = false := by simpa using hs
                have HS' := Aside0.mk hs'
                clear hs
                rw [hs']
                clear hs'
                go_wp2_with fail
                go_meet
                have e1 : dData kk l4 = ([], l4) := if_neg (by rw [HS'.out]; decide)
                rw [e1]
                exact ⟨.slice none 0 0, Aside0.mk HDS.out, Aside0.mk (Kd.R_nil _ _ _ _ _)⟩
            case rest =>
              clear HDS
              obtain ⟨dv, hcut, hR⟩ := hcut
              generalize hvs : dData kk l4 = vs at *
              have HVSD := Aside0.mk hvs
              clear hvs
              obtain ⟨v6, l5⟩ := vs
              obtain ⟨dA, dc, rfl⟩ := Kd.R_slice hR.out
              dsimp only at hcut hR
              have z0 : wc.cell? ⟨w.heap.size, 0, none⟩ = some (.int .u8 0) := blk_cell hcut.out.rb 0
              have f0 : wc.frozen? ⟨w.heap.size, 0, none⟩ = false := blk_frozen hcut.out.rb 0
              have z1 : wc.cell? ⟨w.heap.size, 1, none⟩ = some (.int .u8 0) := blk_cell hcut.out.rb 1
              have f1 : wc.frozen? ⟨w.heap.size, 1, none⟩ = false := blk_frozen hcut.out.rb 1
              have z2 : wc.cell? ⟨w.heap.size, 2, none⟩ = some (.int .i64 0) := blk_cell hcut.out.rb 2
              have f2 : wc.frozen? ⟨w.heap.size, 2, none⟩ = false := blk_frozen hcut.out.rb 2
              have z3 : wc.cell? ⟨w.heap.size, 3, none⟩ = some (.int .u32 0) := blk_cell hcut.out.rb 3
              have f3 : wc.frozen? ⟨w.heap.size, 3, none⟩ = false := blk_frozen hcut.out.rb 3
              have z4 : wc.cell? ⟨w.heap.size, 4, none⟩ = some (.bool false) := blk_cell hcut.out.rb 4
              have f4 : wc.frozen? ⟨w.heap.size, 4, none⟩ = false := blk_frozen hcut.out.rb 4
              have z5 : wc.cell? ⟨w.heap.size, 5, none⟩ = some (.string ⟨#[]⟩) := blk_cell hcut.out.rb 5
              have f5 : wc.frozen? ⟨w.heap.size, 5, none⟩ = false := blk_frozen hcut.out.rb 5
              have z6 : wc.cell? ⟨w.heap.size, 6, none⟩ = some (.slice none 0 0) := blk_cell hcut.out.rb 6
              have f6 : wc.frozen? ⟨w.heap.size, 6, none⟩ = false := blk_frozen hcut.out.rb 6
              have x0 : wc.cell? ⟨w1.heap.size, 0, none⟩ = some (.int .u8 kk) := blk_cell hcut.out.xb 0
              have x1 : wc.cell? ⟨w1.heap.size, 1, none⟩ = some (.int .u8 v1) := blk_cell hcut.out.xb 1
              have x2 : wc.cell? ⟨w1.heap.size, 2, none⟩ = some (.int .i64 n3) := blk_cell hcut.out.xb 2
              have x3 : wc.cell? ⟨w1.heap.size, 3, none⟩ = some (.int .u32 v3) := blk_cell hcut.out.xb 3
              have x4 : wc.cell? ⟨w1.heap.size, 4, none⟩ = some (.bool v4) := blk_cell hcut.out.xb 4
              have x5 : wc.cell? ⟨w1.heap.size, 5, none⟩ = some (.string (str v5)) := blk_cell hcut.out.xb 5
              have x6 : wc.cell? ⟨w1.heap.size, 6, none⟩ = some (.slice dA (ints v6).length dc) := blk_cell hcut.out.xb 6
              go_wp2_with fail
              have hb5 := put7_blk hcut.out.rb (.int .u8 kk) (.int .u8 v1) (.int .i64 n3) (.int .u32 v3) (.bool v4) (.string (str v5)) (.slice dA (ints v6).length dc)
              have HG5 : w.grownBy (put7 wc w.heap.size (.int .u8 kk) (.int .u8 v1) (.int .i64 n3) (.int .u32 v3) (.bool v4) (.string (str v5)) (.slice dA (ints v6).length dc)) (some g) := put7_grown hcut.out.gro (Nat.le_refl _) (.int .u8 kk) (.int .u8 v1) (.int .i64 n3) (.int .u32 v3) (.bool v4) (.string (str v5)) (.slice dA (ints v6).length dc)
              have HR5 := Kd.R_mono (ok' := fun _ => True) (Kd.R_step (w1 := put7 wc w.heap.size (.int .u8 kk) (.int .u8 v1) (.int .i64 n3) (.int .u32 v3) (.bool v4) (.string (str v5)) (.slice dA (ints v6).length dc)) hR.out (fun j hj _ => put7_far (by omega) _ _ _ _ _ _ _)) (fun _ _ => trivial)
              have HRD : Rd w0 (put7 wc w.heap.size (.int .u8 kk) (.int .u8 v1) (.int .i64 n3) (.int .u32 v3) (.bool v4) (.string (str v5)) (.slice dA (ints v6).length dc)) g l5 := by
                obtain ⟨v, h1, h2⟩ := hcut.out.rd
                exact ⟨v, (put7_far (by have := HGW.out; omega) _ _ _ _ _ _ _).trans h1, h2⟩
              clear z0 f0 x0 z1 f1 x1 z2 f2 x2 z3 f3 x3 z4 f4 x4 z5 f5 x5 z6 f6 x6
              unfold put7 at hb5 HG5 HR5 HRD
              generalize (((((((wc.setCell ⟨w.heap.size, 0, none⟩ (.int .u8 kk)).setCell ⟨w.heap.size, 1, none⟩ (.int .u8 v1)).setCell ⟨w.heap.size, 2, none⟩ (.int .i64 n3)).setCell ⟨w.heap.size, 3, none⟩ (.int .u32 v3)).setCell ⟨w.heap.size, 4, none⟩ (.bool v4)).setCell ⟨w.heap.size, 5, none⟩ (.string (str v5))).setCell ⟨w.heap.size, 6, none⟩ (.slice dA (ints v6).length dc)) = w9 at *
              have z0 : w9.cell? ⟨w.heap.size, 0, none⟩ = some (.int .u8 kk) := blk_cell hb5 0
              have z1 : w9.cell? ⟨w.heap.size, 1, none⟩ = some (.int .u8 v1) := blk_cell hb5 1
              have z2 : w9.cell? ⟨w.heap.size, 2, none⟩ = some (.int .i64 n3) := blk_cell hb5 2
              have z3 : w9.cell? ⟨w.heap.size, 3, none⟩ = some (.int .u32 v3) := blk_cell hb5 3
              have z4 : w9.cell? ⟨w.heap.size, 4, none⟩ = some (.bool v4) := blk_cell hb5 4
              have z5 : w9.cell? ⟨w.heap.size, 5, none⟩ = some (.string (str v5)) := blk_cell hb5 5
              have z6 : w9.cell? ⟨w.heap.size, 6, none⟩ = some (.slice dA (ints v6).length dc) := blk_cell hb5 6
              refine bodyPost_ret (v := .agg #[.int .u8 kk, .int .u8 v1, .int .i64 n3, .int .u32 v3, .bool v4, .string (str v5), .slice dA (ints v6).length dc]) (by simp [results, Tryd.results19, go_sem, z0, z1, z2, z3, z4, z5, z6] <;> rfl) rfl ?_
              have eres : res = (⟨kk, v1, n3, v3, v4, v5, v6⟩, l5) := by
                rw [HRES.out]
                unfold stepS
                rw [← HKK.out, HVS.out, HVD.out, HVS37.out]
                dsimp only
                rw [HVS47.out]
                dsimp only
                rw [HVS53.out]
                dsimp only
                rw [HVSD.out]
              rw [eres]
              exact ⟨[.int .u8 kk, .int .u8 v1, .int .i64 n3, .int .u32 v3, .bool v4, .string (str v5), .slice dA (ints v6).length dc], rfl, HRD, HG5, k33_mkM w9 _ _ (s33 ⟨kk, v1, n3, v3, v4, v5, v6⟩) (v6 := .slice dA (ints v6).length dc) HR5⟩
end Go.Proofs.YtfjjikabinelgaaDoor
