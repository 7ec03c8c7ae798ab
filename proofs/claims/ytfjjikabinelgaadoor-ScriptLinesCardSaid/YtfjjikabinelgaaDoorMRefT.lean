/- The document's Text: what its functions compute, and its walk. -/
import Derived.Test.YtfjjikabinelgaaDoorMLib
import Derived.Test.YtfjjikabinelgaaDoorPScriptLinesx4
import Derived.Test.YtfjjikabinelgaaDoorPScriptLinesx5
import Derived.Test.YtfjjikabinelgaaDoorPScriptLinesx8
import Derived.Test.YtfjjikabinelgaaDoorMRef
import Derived.Test.YtfjjikabinelgaaDoorMText
import Derived.Deep.CutBlock
import Derived.Deep.DeepCutAuto
namespace Go.Proofs.YtfjjikabinelgaaDoor
open Go.RowKit Go.Lib Go.Proofs.YtfjjikabinelgaaDoorW.PrintWords Go.Proofs.YtfjjikabinelgaaDoorW.PrintLast Go.Proofs.YtfjjikabinelgaaDoorW.PrintMore Sc PScriptLines
set_option linter.unusedVariables false
set_option linter.unusedSimpArgs false

theorem bt_str (l : List UInt8) (i : Int) (c : UInt8) (r : List UInt8) (h : l.drop i.toNat = c :: r) : bt (str l) i = (c.toNat : Int) := by
  have hl : i.toNat < l.length := by
    rcases Nat.lt_or_ge i.toNat l.length with h1 | h1
    · exact h1
    · rw [List.drop_eq_nil_of_le h1] at h; cases h
  have hc : l[i.toNat]'hl = c := by
    have := List.drop_eq_getElem_cons hl
    rw [h] at this
    injection this with this _
    exact this.symm
  unfold bt
  rw [dif_pos (show i.toNat < (str l).size from hl)]
  show (((l[i.toNat]'hl).toNat : Nat) : Int) = _
  rw [hc]
theorem str_ext {a b : ByteArray} (h : a.data.toList = b.data.toList) : a = b := by
  cases a; cases b
  congr
  exact Array.toList_inj.1 h
theorem str_extract (l : List UInt8) (a b : Nat) : (str l).extract a b = str ((l.drop a).take (b - a)) :=
  str_ext (by rw [extract_data]; rfl)
theorem str_append (a b : List UInt8) : str a ++ str b = str (a ++ b) :=
  str_ext (by simp [str])
theorem wrap_id {x : Int} (h0 : -9223372036854775808 ≤ x) (h1 : x ≤ 9223372036854775807) : wrap64 x = x := by unfold wrap64; omega

/-! ### a number told -/
def rdigs : List UInt8 := [48, 49, 50, 51, 52, 53, 54, 55, 56, 57]
theorem rdigs_at (d : Nat) (h : d < 10) : (rdigs.drop d).take 1 = [UInt8.ofNat (48 + d)] := by
  have : d = 0 ∨ d = 1 ∨ d = 2 ∨ d = 3 ∨ d = 4 ∨ d = 5 ∨ d = 6 ∨ d = 7 ∨ d = 8 ∨ d = 9 := by omega
  rcases this with rfl | rfl | rfl | rfl | rfl | rfl | rfl | rfl | rfl | rfl <;> rfl
theorem told_push (u : Nat) (s : List UInt8) (hu : u ≤ 9223372036854775807) :
    (0 ≤ Int.tmod (u : Int) 10 ∧ Int.tmod (u : Int) 10 ≤ wrap64 (Int.tmod (u : Int) 10 + 1) ∧ wrap64 (Int.tmod (u : Int) 10 + 1) ≤ 10) ∧
    ((⟨#[48, 49, 50, 51, 52, 53, 54, 55, 56, 57]⟩ : ByteArray).extract (Int.tmod (u : Int) 10).toNat (wrap64 (Int.tmod (u : Int) 10 + 1)).toNat) = str [UInt8.ofNat (48 + u % 10)] ∧ wrap64 (Int.tdiv (u : Int) 10) = ((u / 10 : Nat) : Int) := by
  have e : Int.tmod (u : Int) 10 = ((u % 10 : Nat) : Int) := by
    rw [Int.tmod_eq_emod_of_nonneg (by omega)]; omega
  have e2 : Int.tdiv (u : Int) 10 = ((u / 10 : Nat) : Int) := by
    rw [Int.tdiv_eq_ediv_of_nonneg (by omega)]; omega
  have hm : u % 10 < 10 := Nat.mod_lt _ (by decide)
  rw [e, e2, wrap_id (by omega) (by omega), wrap_id (by omega) (by omega)]
  refine ⟨by omega, ?_, rfl⟩
  have h := str_extract rdigs (u % 10) (u % 10 + 1)
  rw [Nat.add_sub_cancel_left, rdigs_at _ hm] at h
  have e3 : ((u % 10 : Nat) : Int).toNat = u % 10 := by omega
  have e4 : (((u % 10 : Nat) : Int) + 1).toNat = u % 10 + 1 := by omega
  rw [e3, e4]
  exact h

theorem told_pos (u : Nat) : ∀ (s : List UInt8) (k : Nat), 0 < u → u + s.length ≤ 9223372036854775806 → u + 1 < k → sumpterref34_told.l0 k (u : Int) (str s) = some (str (decDigits u ++ s)) := by
  induction u using Nat.strongRecOn with
  | _ u ih =>
    intro s k hu hs hk
    obtain ⟨k, rfl⟩ : ∃ m, k = m + 1 := ⟨k - 1, by omega⟩
    obtain ⟨⟨p1, p2, p3⟩, p4, p5⟩ := told_push u s (by omega)
    simp only [sumpterref34_told.l0]
    rw [if_pos (by omega), if_pos p1, if_pos p2, if_pos p3, p4, p5, if_pos (by simp only [str_size, List.length_singleton]; omega), str_append]
    by_cases h : u < 10
    · have e : u / 10 = 0 := by omega
      rw [e, dec_small h, Nat.mod_eq_of_lt h]
      obtain ⟨k, rfl⟩ : ∃ m, k = m + 1 := ⟨k - 1, by omega⟩
      simp only [sumpterref34_told.l0]
      rw [if_neg (by decide), if_neg (by rw [str_toList]; simp)]
    · rw [ih (u / 10) (by omega) _ _ (by omega) (by simp; omega) (by omega), dec_big h]
      simp
theorem told_f (u : Nat) (hu : u ≤ 9223372036854775806) : Ev (fun k => sumpterref34_told.f k (u : Int)) (str (decDigits u)) := by
  rcases Nat.eq_zero_or_pos u with rfl | h
  · refine Ev.of (sumpterref34_told.mono _) (k := 2) ?_
    rw [dec_small (by decide)]
    decide +kernel
  · refine Ev.of (sumpterref34_told.mono _) (k := u + 2) ?_
    have := told_pos u [] (u + 2) h (by simpa using hu) (by omega)
    rw [List.append_nil] at this
    exact this

/-! ### a number read -/
theorem number_l (l : List UInt8) : ∀ (d f : Nat) (i k : Nat) (a : Nat), l.length = i + d → i + f = 18 → a < 10 ^ i → d < k → sumpterref34_number.l0 k (str l) (a : Int) (i : Int) = some ((numAux f a (l.drop i) : Nat) : Int)
  | 0, f, i, k, a, hl, hf, ha, hk => by
    obtain ⟨k, rfl⟩ : ∃ m, k = m + 1 := ⟨k - 1, by omega⟩
    simp only [sumpterref34_number.l0]
    rw [if_neg (by rw [str_size]; omega), List.drop_eq_nil_of_le (by omega)]
    cases f <;> rfl
  | d + 1, 0, i, k, a, hl, hf, ha, hk => by
    obtain ⟨k, rfl⟩ : ∃ m, k = m + 1 := ⟨k - 1, by omega⟩
    simp only [sumpterref34_number.l0]
    rw [if_pos (by rw [str_size]; omega), if_neg (by omega)]
    rfl
  | d + 1, f + 1, i, k, a, hl, hf, ha, hk => by
    obtain ⟨k, rfl⟩ : ∃ m, k = m + 1 := ⟨k - 1, by omega⟩
    have hil : i < l.length := by omega
    have hd := List.drop_eq_getElem_cons hil
    have hb := bt_str l (i : Int) l[i] (l.drop (i + 1)) (by rw [Int.toNat_natCast]; exact hd)
    have hc := (l[i]).toNat_lt
    have h18 : (10 : Nat) ^ i ≤ 10 ^ 17 := Nat.pow_le_pow_right (by decide) (by omega)
    simp only [sumpterref34_number.l0]
    rw [if_pos (by rw [str_size]; omega), if_pos (by omega), if_pos (by omega), hb, wrap_id (x := 10 * (a : Int)) (by omega) (by omega)]
    have e : (10 * (a : Int) + ((((l[i]).toNat : Int) - 48) % 256) % 10) = ((10 * a + (((l[i]).toNat + 208) % 256) % 10 : Nat) : Int) := by omega
    rw [e, wrap_id (by omega) (by omega), wrap_id (by omega) (by omega), hd, numAux]
    have := number_l l d f (i + 1) k (10 * a + (((l[i]).toNat + 208) % 256) % 10) (by omega) (by omega) (by rw [Nat.pow_succ]; omega) (by omega)
    exact this
theorem number_f (l : List UInt8) : Ev (fun k => sumpterref34_number.f k (str l)) ((numR l : Nat) : Int) := by
  refine Ev.of (sumpterref34_number.mono _) (k := l.length + 1) ?_
  have := number_l l l.length 18 0 (l.length + 1) 0 (by omega) rfl (by decide) (by omega)
  exact this

/-! ### digits to the base 16 read -/
theorem place_all : ∀ c : Fin 256, sumpterref34_place.f 20 (⟨#[48, 49, 50, 51, 52, 53, 54, 55, 56, 57, 97, 98, 99, 100, 101, 102]⟩ : ByteArray) (c.val : Int) = some ((hexz (UInt8.ofNat c.val) : Nat) : Int) := by decide +kernel
theorem place_f (c : UInt8) : Ev (fun k => sumpterref34_place.f k (⟨#[48, 49, 50, 51, 52, 53, 54, 55, 56, 57, 97, 98, 99, 100, 101, 102]⟩ : ByteArray) (c.toNat : Int)) ((hexz c : Nat) : Int) := by
  refine Ev.of (sumpterref34_place.mono _ _) (k := 20) ?_
  have h := place_all ⟨c.toNat, c.toNat_lt⟩
  simpa using h
theorem hexz_lt (c : UInt8) : hexz c < 16 := by
  have := hexv_le c
  unfold hexz; split <;> omega
theorem rhexlen (f : UInt8 → Nat) : ∀ l : List UInt8, (unhexW f l).length ≤ l.length
  | [] => Nat.le_refl _
  | [_] => by simp [unhexW]
  | _ :: _ :: r => by have := rhexlen f r; simp [unhexW]; omega

theorem bytes_l (l : List UInt8) (hl : l.length ≤ 1000000) : ∀ (d : Nat) (i : Nat) (o : List UInt8), l.length ≤ i + d → o.length ≤ i → i ≤ l.length + 1 → Ev (fun k => sumpterref34_bytes.l0 k (str l) (ints o) (i : Int)) (ints (o ++ unhexW hexz (l.drop i)))
  | 0, i, o, hd, ho, hi => by
    refine Ev.step (f := fun _ => some (ints o)) (fun k => ?_) ?_
    · simp only [sumpterref34_bytes.l0]
      rw [if_neg (by rw [str_size, wrap_id (by omega) (by omega)]; omega)]
    · rw [List.drop_eq_nil_of_le (by omega)]
      simp only [unhexW, List.append_nil]
      exact Ev.now _
  | d + 1, i, o, hd, ho, hi => by
    by_cases h2 : i + 1 < l.length
    · have e1 := List.drop_eq_getElem_cons (show i < l.length by omega)
      have e2 := List.drop_eq_getElem_cons h2
      have b1 := bt_str l (i : Int) l[i] (l.drop (i + 1)) (by rw [Int.toNat_natCast]; exact e1)
      have b2 := bt_str l ((i : Int) + 1) l[i + 1] (l.drop (i + 1 + 1)) (by
        have : ((i : Int) + 1).toNat = i + 1 := by omega
        rw [this]; exact e2)
      refine Ev.step (f := fun k => (sumpterref34_place.f k (⟨#[48, 49, 50, 51, 52, 53, 54, 55, 56, 57, 97, 98, 99, 100, 101, 102]⟩ : ByteArray) ((l[i]).toNat : Int)).bind fun t197 => (sumpterref34_place.f k (⟨#[48, 49, 50, 51, 52, 53, 54, 55, 56, 57, 97, 98, 99, 100, 101, 102]⟩ : ByteArray) ((l[i + 1]).toNat : Int)).bind fun t198 => sumpterref34_bytes.l0 k (str l) (ints o ++ [(((16 * t197) % 256) + t198) % 256]) ((i + 2 : Nat) : Int)) (fun k => ?_) ?_
      · have w1 : wrap64 ((i : Int) + 1) = (i : Int) + 1 := wrap_id (by omega) (by omega)
        have w2 : wrap64 ((i : Int) + 2) = ((i + 2 : Nat) : Int) := by rw [wrap_id (by omega) (by omega)]; omega
        simp only [sumpterref34_bytes.l0]
        rw [w1, w2, if_pos (by rw [str_size]; omega), if_pos (by omega), if_pos (by rw [str_size]; omega), b1, b2]
        simp only [if_pos (show (0 : Int) ≤ (i : Int) + 1 by omega), if_pos (show (ints o).length < 140737488355328 by rw [ints_len]; omega)]
      · refine Ev.bind (place_f l[i]) (Ev.bind (place_f l[i + 1]) ?_)
        have z1 := hexz_lt l[i]
        have z2 := hexz_lt l[i + 1]
        have eb : ints o ++ [(((16 * ((hexz l[i] : Nat) : Int)) % 256) + ((hexz l[i + 1] : Nat) : Int)) % 256] = ints (o ++ [UInt8.ofNat (16 * hexz l[i] + hexz l[i + 1])]) := by
          rw [ints_app]
          congr 1
          simp only [ints, List.map_cons, List.map_nil, UInt8.toNat_ofNat']
          congr 1
          omega
        simp only [eb]
        have := bytes_l l hl d (i + 2) (o ++ [UInt8.ofNat (16 * hexz l[i] + hexz l[i + 1])]) (by omega) (by simp; omega) (by omega)
        rw [e1, e2]
        simp only [unhexW]
        rw [List.append_assoc] at this
        exact this
    · refine Ev.step (f := fun _ => some (ints o)) (fun k => ?_) ?_
      · simp only [sumpterref34_bytes.l0]
        rw [if_neg (by rw [str_size, wrap_id (by omega) (by omega)]; omega)]
      · have : unhexW hexz (l.drop i) = [] := by
          have hlen : (l.drop i).length ≤ 1 := by rw [List.length_drop]; omega
          match l.drop i, hlen with
          | [], _ => rfl
          | [_], _ => rfl
          | _ :: _ :: _, h => simp at h
        rw [this, List.append_nil]
        exact Ev.now _
theorem bytes_f (l : List UInt8) (hl : l.length ≤ 1000000) : Ev (fun k => sumpterref34_bytes.f k (str l)) (ints (unhexW hexz l)) := by
  have := bytes_l l hl l.length 0 [] (by omega) (by simp) (by omega)
  rw [List.nil_append, List.drop_zero] at this
  exact this

/-! ### a text cut at a byte -/
/-- What is cut, begun with the part p. -/
def splA (c : UInt8) (p r : List UInt8) : List (List UInt8) := (p ++ (spl c r).headD []) :: (spl c r).tail
theorem splA_nil (c : UInt8) (r : List UInt8) : splA c [] r = spl c r := by
  unfold splA
  have := spl_ne c r
  cases h : spl c r with
  | nil => exact absurd h this
  | cons y t => rfl
theorem splA_end (c : UInt8) (p : List UInt8) : splA c p [] = [p] := by simp [splA, spl]
theorem splA_cut (c : UInt8) (p r : List UInt8) : splA c p (c :: r) = p :: spl c r := by simp [splA, spl]
theorem splA_push (c x : UInt8) (p r : List UInt8) (h : x ≠ c) : splA c p (x :: r) = splA c (p ++ [x]) r := by
  unfold splA
  rw [spl, if_neg h]
  simp
theorem take_from (l : List UInt8) (a b : Nat) (h : a ≤ b) (hb : b < l.length) : (l.drop a).take (b + 1 - a) = (l.drop a).take (b - a) ++ [l[b]] := by
  rw [show b + 1 - a = (b - a) + 1 by omega, List.take_succ_eq_append_getElem (by rw [List.length_drop]; omega)]
  simp [show a + (b - a) = b by omega]

theorem parts_l (l : List UInt8) (hl : l.length ≤ 1000000) : ∀ (d i a : Nat) (o : List (List UInt8)) (k : Nat), l.length = i + d → a ≤ i → o.length ≤ i → d + 2 < k → sumpterref34_parts.l0 k (str l) (o.map str) (a : Int) (i : Int) = some ((o ++ splA 32 ((l.drop a).take (i - a)) (l.drop i)).map str)
  | 0, i, a, o, k, hd, ha, ho, hk => by
    obtain ⟨k, rfl⟩ : ∃ m, k = m + 1 := ⟨k - 1, by omega⟩
    simp only [sumpterref34_parts.l0]
    rw [if_pos (by rw [str_size]; omega), if_pos (by rw [str_size]; omega), if_pos (by omega), if_pos (by omega), if_pos (by rw [List.length_map]; omega), wrap_id (by omega) (by omega), List.drop_eq_nil_of_le (show l.length ≤ i by omega), splA_end]
    obtain ⟨k, rfl⟩ : ∃ m, k = m + 1 := ⟨k - 1, by omega⟩
    simp only [sumpterref34_parts.l0]
    rw [if_neg (by rw [str_size]; omega), Int.toNat_natCast, Int.toNat_natCast, str_extract]
    simp
  | d + 1, i, a, o, k, hd, ha, ho, hk => by
    obtain ⟨k, rfl⟩ : ∃ m, k = m + 1 := ⟨k - 1, by omega⟩
    have hil : i < l.length := by omega
    have e1 := List.drop_eq_getElem_cons hil
    have b1 := bt_str l (i : Int) l[i] (l.drop (i + 1)) (by rw [Int.toNat_natCast]; exact e1)
    have w1 : wrap64 ((i : Int) + 1) = ((i + 1 : Nat) : Int) := by rw [wrap_id (by omega) (by omega)]; omega
    simp only [sumpterref34_parts.l0]
    rw [if_pos (by rw [str_size]; omega), if_neg (by rw [str_size]; omega), if_pos (by omega), if_pos (by rw [str_size]; omega), b1, w1]
    by_cases hc : l[i] = 32
    · have hc' : ((l[i]).toNat : Int) = 32 := by rw [hc]; rfl
      rw [if_pos hc', if_pos (by omega), if_pos (by omega), if_pos (by rw [List.length_map]; omega), Int.toNat_natCast, Int.toNat_natCast, str_extract]
      have := parts_l l hl d (i + 1) (i + 1) (o ++ [(l.drop a).take (i - a)]) k (by omega) (by omega) (by simp; omega) (by omega)
      rw [List.map_append] at this
      rw [show ([str ((l.drop a).take (i - a))] : List ByteArray) = [(l.drop a).take (i - a)].map str from rfl, this, e1, hc, splA_cut, Nat.sub_self, List.take_zero, splA_nil]
      simp
    · have hc' : ¬ ((l[i]).toNat : Int) = 32 := by
        intro h
        exact hc (UInt8.toNat_inj.1 (show (l[i]).toNat = 32 by omega))
      rw [if_neg hc', parts_l l hl d (i + 1) a o k (by omega) (by omega) (by omega) (by omega), take_from l a i ha hil, e1, splA_push _ _ _ _ hc]
theorem parts_f (l : List UInt8) (hl : l.length ≤ 1000000) : Ev (fun k => sumpterref34_parts.f k (str l)) ((spl 32 l).map str) := by
  refine Ev.of (sumpterref34_parts.mono _) (k := l.length + 3) ?_
  have := parts_l l hl l.length 0 0 [] (l.length + 3) (by omega) (by omega) (by simp) (by omega)
  rw [List.nil_append, List.drop_zero, Nat.sub_self, List.take_zero, splA_nil] at this
  exact this

theorem split_l (l : List UInt8) (hl : l.length ≤ 1000000) : ∀ (d i a : Nat) (o : List (List UInt8)) (k : Nat), l.length = i + d → a ≤ i → o.length ≤ i → d + 2 < k → sumpterref07_Split.l0 k (str l) (o.map str) (a : Int) (i : Int) = some ((o ++ splA 47 ((l.drop a).take (i - a)) (l.drop i)).map str)
  | 0, i, a, o, k, hd, ha, ho, hk => by
    obtain ⟨k, rfl⟩ : ∃ m, k = m + 1 := ⟨k - 1, by omega⟩
    simp only [sumpterref07_Split.l0]
    rw [if_pos (by rw [str_size]; omega), if_pos (by rw [str_size]; omega), if_pos (by omega), if_pos (by omega), if_pos (by rw [List.length_map]; omega), wrap_id (by omega) (by omega), List.drop_eq_nil_of_le (show l.length ≤ i by omega), splA_end]
    obtain ⟨k, rfl⟩ : ∃ m, k = m + 1 := ⟨k - 1, by omega⟩
    simp only [sumpterref07_Split.l0]
    rw [if_neg (by rw [str_size]; omega), Int.toNat_natCast, Int.toNat_natCast, str_extract]
    simp
  | d + 1, i, a, o, k, hd, ha, ho, hk => by
    obtain ⟨k, rfl⟩ : ∃ m, k = m + 1 := ⟨k - 1, by omega⟩
    have hil : i < l.length := by omega
    have e1 := List.drop_eq_getElem_cons hil
    have b1 := bt_str l (i : Int) l[i] (l.drop (i + 1)) (by rw [Int.toNat_natCast]; exact e1)
    have w1 : wrap64 ((i : Int) + 1) = ((i + 1 : Nat) : Int) := by rw [wrap_id (by omega) (by omega)]; omega
    simp only [sumpterref07_Split.l0]
    rw [if_pos (by rw [str_size]; omega), if_neg (by rw [str_size]; omega), if_pos (by omega), if_pos (by rw [str_size]; omega), b1, w1]
    by_cases hc : l[i] = 47
    · have hc' : ((l[i]).toNat : Int) = 47 := by rw [hc]; rfl
      rw [if_pos hc', if_pos (by omega), if_pos (by omega), if_pos (by rw [List.length_map]; omega), Int.toNat_natCast, Int.toNat_natCast, str_extract]
      have := split_l l hl d (i + 1) (i + 1) (o ++ [(l.drop a).take (i - a)]) k (by omega) (by omega) (by simp; omega) (by omega)
      rw [List.map_append] at this
      rw [show ([str ((l.drop a).take (i - a))] : List ByteArray) = [(l.drop a).take (i - a)].map str from rfl, this, e1, hc, splA_cut, Nat.sub_self, List.take_zero, splA_nil]
      simp
    · have hc' : ¬ ((l[i]).toNat : Int) = 47 := by
        intro h
        exact hc (UInt8.toNat_inj.1 (show (l[i]).toNat = 47 by omega))
      rw [if_neg hc', split_l l hl d (i + 1) a o k (by omega) (by omega) (by omega) (by omega), take_from l a i ha hil, e1, splA_push _ _ _ _ hc]
theorem split_f (l : List UInt8) (hl : l.length ≤ 1000000) : Ev (fun k => sumpterref07_Split.f k (str l)) ((names l).map str) := by
  by_cases h : l = []
  · subst h
    exact ⟨0, fun k _ => by show sumpterref07_Split.f k (str []) = _; unfold sumpterref07_Split.f; rw [if_pos (by rw [str_toList])]; rfl⟩
  · refine Ev.of (sumpterref07_Split.mono _) (k := l.length + 3) ?_
    have := split_l l hl l.length 0 0 [] (l.length + 3) (by omega) (by omega) (by simp) (by omega)
    rw [List.nil_append, List.drop_zero, Nat.sub_self, List.take_zero, splA_nil] at this
    unfold sumpterref07_Split.f names
    rw [if_neg (by rw [str_toList]; exact h), if_neg h]
    exact this

/-! ### a name, a path -/
theorem name_l (l : List UInt8) (hl : l.length ≤ 1000000) : ∀ (d i k : Nat), l.length = i + d → d < k → sumpterref07_Name.l0 k (str l) (i : Int) = some ((l.drop i).all okByte)
  | 0, i, k, hd, hk => by
    obtain ⟨k, rfl⟩ : ∃ m, k = m + 1 := ⟨k - 1, by omega⟩
    simp only [sumpterref07_Name.l0]
    rw [if_neg (by rw [str_size]; omega), List.drop_eq_nil_of_le (by omega)]
    rfl
  | d + 1, i, k, hd, hk => by
    obtain ⟨k, rfl⟩ : ∃ m, k = m + 1 := ⟨k - 1, by omega⟩
    have hil : i < l.length := by omega
    have e1 := List.drop_eq_getElem_cons hil
    have b1 := bt_str l (i : Int) l[i] (l.drop (i + 1)) (by rw [Int.toNat_natCast]; exact e1)
    have w1 : wrap64 ((i : Int) + 1) = ((i + 1 : Nat) : Int) := by rw [wrap_id (by omega) (by omega)]; omega
    simp only [sumpterref07_Name.l0]
    rw [if_pos (by rw [str_size]; omega), if_pos (by omega), b1, w1, e1, List.all_cons]
    by_cases h1 : ((l[i]).toNat : Int) = 47
    · rw [if_pos h1]
      have : okByte l[i] = false := by simp [okByte]; omega
      rw [this]; rfl
    rw [if_neg h1]
    by_cases h2 : ((l[i]).toNat : Int) < 33
    · rw [if_pos h2]
      have : okByte l[i] = false := by simp [okByte]; omega
      rw [this]; rfl
    rw [if_neg h2]
    by_cases h3 : ((l[i]).toNat : Int) > 126
    · rw [if_pos h3]
      have : okByte l[i] = false := by simp [okByte]; omega
      rw [this]; rfl
    rw [if_neg h3]
    have : okByte l[i] = true := by simp [okByte]; omega
    rw [this, Bool.true_and]
    exact name_l l hl d (i + 1) k (by omega) (by omega)
theorem name_f (l : List UInt8) (hl : l.length ≤ 1000000) : Ev (fun k => sumpterref07_Name.f k (str l)) (nameP l) := by
  have hz : ∀ k, sumpterref07_Name.j0 (k + 1) (str l) true = some false := fun k => by simp [sumpterref07_Name.j0]
  refine Ev.of (sumpterref07_Name.mono _) (k := l.length + 2) ?_
  unfold sumpterref07_Name.f
  rw [str_size, str_toList]
  by_cases h1 : (l.length : Int) < 1
  · rw [if_pos h1, hz]
    have : l = [] := List.eq_nil_of_length_eq_zero (by omega)
    subst this; rfl
  rw [if_neg h1]
  by_cases h2 : (l.length : Int) > 32
  · rw [if_pos h2, hz]
    have : nameP l = false := by
      unfold nameP
      rw [show decide (l.length ≤ 32) = false from decide_eq_false (by omega)]
      simp
    rw [this]
  rw [if_neg h2]
  by_cases h3 : l = [46]
  · rw [if_pos h3, hz]; subst h3; rfl
  rw [if_neg h3]
  by_cases h4 : l = [46, 46]
  · subst h4
    exact hz _
  have : (l == [46, 46]) = false := by simpa using h4
  rw [this]
  simp only [sumpterref07_Name.j0]
  rw [if_neg (by simp)]
  have hN : nameP l = l.all okByte := by
    unfold nameP
    rw [show decide (1 ≤ l.length) = true from decide_eq_true (by omega), show decide (l.length ≤ 32) = true from decide_eq_true (by omega), show decide (l ≠ [46]) = true from decide_eq_true h3, show decide (l ≠ [46, 46]) = true from decide_eq_true h4]
    rfl
  rw [hN]
  have := name_l l hl l.length 0 (l.length + 1) (by omega) (by omega)
  rw [List.drop_zero] at this
  exact this

def checkE (ns : List (List UInt8)) (n : Nat) : Int := if ns.all nameP = false then 6 else if n = 0 then 6 else if 8 < n then 5 else 0
theorem check_l (ns : List (List UInt8)) (hn : ns.length ≤ 1000000) (hs : ∀ x ∈ ns, x.length ≤ 1000000) : ∀ (d i : Nat), ns.length = i + d → Ev (fun k => sumpterref07_Check.l0 k (ns.map str) (i : Int)) (checkE (ns.drop i) ns.length)
  | 0, i, hd => by
    refine Ev.step (f := fun _ => some (checkE (ns.drop i) ns.length)) (fun k => ?_) (Ev.now _)
    simp only [sumpterref07_Check.l0]
    have hE : checkE (ns.drop i) ns.length = if ns.length = 0 then 6 else if 8 < ns.length then 5 else 0 := by
      unfold checkE
      rw [List.drop_eq_nil_of_le (by omega), if_neg (c := ([] : List (List UInt8)).all nameP = false) (by simp)]
    rw [List.length_map, if_neg (by omega), hE]
    by_cases h : ns.length = 0
    · rw [if_pos (show (ns.length : Int) = 0 by omega), if_pos h]
    · rw [if_neg (show ¬ (ns.length : Int) = 0 by omega), if_neg h]
      by_cases h8 : 8 < ns.length
      · rw [if_pos (show (ns.length : Int) > 8 by omega), if_pos h8]
      · rw [if_neg (show ¬ (ns.length : Int) > 8 by omega), if_neg h8]
  | d + 1, i, hd => by
    have hil : i < ns.length := by omega
    have e1 := List.drop_eq_getElem_cons hil
    have w1 : wrap64 ((i : Int) + 1) = ((i + 1 : Nat) : Int) := by rw [wrap_id (by omega) (by omega)]; omega
    have r1 : rdOf ByteArray.empty (ns.map str) (i : Int) = str ns[i] := by
      unfold rdOf
      rw [Int.toNat_natCast, List.getD_eq_getElem?_getD, List.getElem?_map, List.getElem?_eq_getElem hil]
      rfl
    refine Ev.step (f := fun k => (sumpterref07_Name.f k (str ns[i])).bind fun t171 => if t171 = true then sumpterref07_Check.l0 k (ns.map str) ((i + 1 : Nat) : Int) else some 6) (fun k => ?_) ?_
    · simp only [sumpterref07_Check.l0]
      rw [List.length_map, if_pos (by omega), if_pos (by omega), r1, w1]
    · refine Ev.bind (name_f ns[i] (hs _ (List.getElem_mem hil))) ?_
      rw [e1]
      unfold checkE
      rw [List.all_cons]
      by_cases h : nameP ns[i] = true
      · simp only [h, if_true, Bool.true_and]
        exact check_l ns hn hs d (i + 1) (by omega)
      · have h' : nameP ns[i] = false := by simpa using h
        simp only [h', Bool.false_eq_true, if_false, Bool.false_and, if_true]
        exact Ev.now _
theorem mem_len (c : UInt8) : ∀ l : List UInt8, ∀ x ∈ spl c l, x.length ≤ l.length
  | [], x, hx => by simp [spl] at hx; subst hx; simp
  | y :: r, x, hx => by
    have hne := spl_ne c r
    unfold spl at hx
    split at hx
    · rcases List.mem_cons.1 hx with rfl | hx
      · simp
      · have := mem_len c r x hx; simp; omega
    · cases hs : spl c r with
      | nil => exact absurd hs hne
      | cons z t =>
        rw [hs] at hx
        simp only [List.headD_cons, List.tail_cons, List.mem_cons] at hx
        rcases hx with rfl | hx
        · have := mem_len c r z (by rw [hs]; simp); simp; omega
        · have := mem_len c r x (by rw [hs]; simp [hx]); simp; omega
theorem check_f (l : List UInt8) (hl : l.length ≤ 1000000) : Ev (fun k => sumpterref07_Check.f k (str l)) (checkN l) := by
  by_cases h : 128 < l.length
  · refine ⟨0, fun k _ => ?_⟩
    show sumpterref07_Check.f k (str l) = _
    unfold sumpterref07_Check.f checkN
    rw [if_pos (by rw [str_size]; omega), if_pos h]
  · have hnl : (names l).length ≤ l.length + 1 := by
      unfold names
      split
      · simp
      · rw [spl_len]
        have := List.count_le_length (a := (47 : UInt8)) (l := l)
        omega
    have hnm : ∀ x ∈ names l, x.length ≤ 1000000 := by
      intro x hx
      unfold names at hx
      split at hx
      · cases hx
      · have := mem_len 47 l x hx; omega
    have e : checkN l = checkE (names l) (names l).length := by
      unfold checkN checkE
      rw [if_neg h]
      by_cases h0 : names l = []
      · rw [if_pos h0, h0]; rfl
      · rw [if_neg h0, if_neg (c := (names l).length = 0) (fun e => h0 (List.eq_nil_of_length_eq_zero e))]
    refine Ev.congr (f := fun k => (sumpterref07_Split.f k (str l)).bind fun t167 => sumpterref07_Check.l0 k t167 0) (fun k => ?_) ?_
    · unfold sumpterref07_Check.f
      rw [if_neg (by rw [str_size]; omega)]
    · refine Ev.bind (split_f l hl) ?_
      rw [e]
      have := check_l (names l) (by omega) hnm (names l).length 0 (by omega)
      rw [List.drop_zero] at this
      exact this

theorem word_f (k : Nat) (hk : k ≤ 9) : sumpterref34_Word.f (k : Int) = some (str (word k)) := by
  have h : k = 0 ∨ k = 1 ∨ k = 2 ∨ k = 3 ∨ k = 4 ∨ k = 5 ∨ k = 6 ∨ k = 7 ∨ k = 8 ∨ k = 9 := by omega
  rcases h with rfl | rfl | rfl | rfl | rfl | rfl | rfl | rfl | rfl | rfl <;> rfl
theorem sided_f (k : Nat) : sumpterref34_sided.f (k : Int) = some (sided k) := by
  unfold sumpterref34_sided.f sided
  by_cases h5 : k = 5
  · subst h5; rfl
  by_cases h6 : k = 6
  · subst h6; rfl
  by_cases h7 : k = 7
  · subst h7; rfl
  rw [if_neg (by omega), if_neg (by omega), if_neg (by omega), decide_eq_false h5, decide_eq_false h6, decide_eq_false h7]
  by_cases h8 : k = 8
  · subst h8; rfl
  · rw [decide_eq_false h8]
    have : ((k : Int) == 8) = false := by rw [beq_eq_false_iff_ne]; omega
    rw [this]; rfl
end Go.Proofs.YtfjjikabinelgaaDoor
namespace Go.Proofs.YtfjjikabinelgaaDoor
open Go.RowKit Go.Maps Go.Proofs.YtfjjikabinelgaaDoorW.PrintWords Go.Proofs.YtfjjikabinelgaaDoorW.PrintLast Go.Proofs.YtfjjikabinelgaaDoorW.PrintMore Sc PScriptLines
set_option linter.unusedVariables false
set_option linter.unusedSimpArgs false

section
variable {P : Program} {ops : Array Oper} {o : Oper} {a : Act} {Q : Exit → Act → World → Prop} {Kc : Act → World → Prop}
/-- append(row, bytes...), where the order is drawn. -/
theorem step_append_more {W : World} (base : Nat) (hw : Region.wanted o (yielded ops a.tmps) = true) (s x : Operand)
    (ho : o.op = .call { callee := .builtin .append, args := #[s, x], argTypes := #[22, 22] }) (ht : P.underlying 22 = some (.slice 5)) (hinfo : (P.info? 5).map (fun i => (i.zero, i.size, i.bytes)) = some (some (.int .u8 0), 1, 1))
    (v : Value) (xs ys : List Int) (A : Option Addr) (m c : Nat) (hs : a.eval s = v) (hx : a.eval x = .slice A m c) (HO : Kd.R (Kd.int .u8) 5 W base (fun _ => True) v xs) (HC : Kd.C (Kd.int .u8) W A m ys)
    (hbase : base ≤ W.heap.size) (hl : xs.length + m ≤ 4000000)
    (h : ∀ v1 w1, Kd.R (Kd.int .u8) 5 w1 base (fun _ => True) v1 (xs ++ ys) → Below base W w1 → Kc (a.put o.dst v1) w1) :
    if Region.wanted o (yielded ops a.tmps) = true then Oper.wp P o a W Kc Q else Kc (a.put o.dst undef) W := by
  refine Kd.R_append_rows_step (Kd.int .u8) (w0 := W) base hw s x 22 5 (.int .u8 0) 1 ho ht hinfo rfl (by decide) (by decide) v xs ys _ _ _ (fun _ => True) (fun _ => False) hs hx HO HC (fun y cs hc => hc) (fun _ hk => hk.elim) (fun k hk => trivial) (Below.refl _ _) hbase (by omega) ?_
  intro v1 w1 h1 h2 _ _
  exact h v1 w1 h1 h2
end
theorem lit_two (W : World) (p q : Int) : Kd.C (Kd.int .u8) (W.alloc (.cells #[.int .u8 p, .int .u8 q] 5)) (some ⟨W.heap.size, 0, none⟩) 2 [p, q] := by
  have hlit := own_lit W W.heap.size 5 .u8 [p, q] (Nat.le_refl _) (by simp)
  have hR := Kd.R_of_own (enc := Value.int .u8) (h1 := fun _ => rfl) (e := 5) (ok := fun _ => True) (xs := [p, q]) hlit (fun _ _ => trivial)
  exact (Kd.R_reads' hR).2.2

theorem u8_wrap {x : Int} (h0 : 0 ≤ x) (h1 : x ≤ 255) : IntKind.u8.wrap x = x := by
  unfold IntKind.wrap
  simp [IntKind.signed, IntKind.bits]
  omega
theorem quo16 {X : Int} (h0 : 0 ≤ X) (h1 : X ≤ 255) : IntKind.u8.wrap (X.tdiv 16) = X / 16 := by
  rw [Int.tdiv_eq_ediv_of_nonneg h0]
  exact u8_wrap (by omega) (by omega)
set_option maxRecDepth 100000 in
theorem run_hexd (q : Nat) (h : q < 16) (W : World) : (Instr.index 9 (.string ⟨#[48, 49, 50, 51, 52, 53, 54, 55, 56, 57, 97, 98, 99, 100, 101, 102]⟩) (.int .u8 (q : Int))).run Tryd.prog W = .ok (.int .u8 ((hexd q).toNat : Int)) W := by
  have : q = 0 ∨ q = 1 ∨ q = 2 ∨ q = 3 ∨ q = 4 ∨ q = 5 ∨ q = 6 ∨ q = 7 ∨ q = 8 ∨ q = 9 ∨ q = 10 ∨ q = 11 ∨ q = 12 ∨ q = 13 ∨ q = 14 ∨ q = 15 := by omega
  rcases this with rfl | rfl | rfl | rfl | rfl | rfl | rfl | rfl | rfl | rfl | rfl | rfl | rfl | rfl | rfl | rfl <;> rfl
set_option maxHeartbeats 2000000 in
set_option maxRecDepth 100000 in
theorem rhex_calls {v : Value} {l : List UInt8} (hlen : l.length ≤ 1000000) (w : World) (h : By w v l) :
    Calls Tryd.prog 41 #[v] w fun e w' => e = .returned (.string (str (hexP l))) ∧ Below w.heap.size w w' := by
  have HB := Aside0.mk h
  obtain ⟨A, c, rfl, hc, hr⟩ := h
  clear hc hr
  by_cases hl : l = []
  · subst hl
    clear HB
    go_enter Tryd.func41, Tryd.ntmps41
    go_wp2
    go_ret
    exact ⟨rfl, Below.refl _ _⟩
  · obtain ⟨_, ad, rfl, hcell⟩ := HB.out.cells hl
    have ep : hexP l = hexb l := if_neg hl
    rw [ep]
    have hz : ((l.length : Int) == 0) = false := by
      have := List.length_pos_iff.2 hl
      rw [beq_eq_false_iff_ne]; omega
    have HC := Aside0.mk hcell
    clear hcell ep HB hl
    go_enter Tryd.func41, Tryd.ntmps41
    go_wp2_with fail
    go_loopw [3, 4] (fun v i wr => ∃ k : Nat, i = .int .i64 (k : Int) ∧ k ≤ l.length ∧ Aside0 (Kd.R (Kd.int .u8) 5 wr w.heap.size (fun _ => True) v (ints (hexb (l.take k)))) ∧ Aside0 (Below w.heap.size w wr)) (fun _ i _ => l.length - (intOf i).toNat)
    case atStart => exact ⟨0, rfl, Nat.zero_le _, Aside0.mk (Kd.R_nil _ _ _ _ _), Aside0.mk (Below.refl _ _)⟩
    case round =>
      obtain ⟨k, rfl, hk, HR, HS⟩ := hrel
      by_cases hlt : k < l.length
      · have hcl : wr.cell? (ad.add k) = some (.int .u8 (l[k].toNat)) := pw_cell_below HS.out (HC.out k hlt)
        have hcw := HC.out k hlt
        have h256 := l[k].toNat_lt
        generalize hx : l[k] = x at *
        have HX := Aside0.mk hx
        clear hx
        obtain ⟨X, hX⟩ : ∃ X : Int, X = (x.toNat : Int) := ⟨_, rfl⟩
        rw [← hX] at hcl hcw
        have HCW := Aside0.mk hcw
        clear hcw
        obtain ⟨q, hq⟩ : ∃ q, q = x.toNat / 16 := ⟨_, rfl⟩
        obtain ⟨m, hm⟩ : ∃ m, m = x.toNat % 16 := ⟨_, rfl⟩
        have X0 : 0 ≤ X := by omega
        have X1 : X ≤ 255 := by omega
        have eq16 : IntKind.u8.wrap (X.tdiv 16) = (q : Int) := by rw [quo16 X0 X1]; omega
        have er16 : X.tmod 16 = (m : Int) := by rw [Int.tmod_eq_emod_of_nonneg X0]; omega
        have eq17 : X / 16 = (q : Int) := by omega
        have er17 : X % 16 = (m : Int) := by omega
        have hq16 : q < 16 := by omega
        have hm16 : m < 16 := by omega
        have HQ := Aside0.mk hq
        have HM := Aside0.mk hm
        clear hq hm hX h256
        have i0 : (0 : Int) ≤ k := by omega
        have i1 : (k : Int) < l.length := by omega
        have j0 : (0 : Int) ≤ q := by omega
        have j1 : (q : Int) < 16 := by omega
        have j2 : (0 : Int) ≤ m := by omega
        have j3 : (m : Int) < 16 := by omega
        have x0 := run_hexd q hq16
        have x1 := run_hexd m hm16
        go_wp2_with fail
        go_region_held3 (fun w' => w'.cell? (ad.add k) = some (.int .u8 X)) (first | go_keep | exact (Below.cell (Below.trans ((HS.out.alloc HS.out.size _).drew) hb4) (World.block_lt_of_cell? w _ HCW.out)).trans HCW.out) ((refine step_append_more w.heap.size (by rfl) (.tmp 14) (.tmp 27) (by rfl) Tryd.underlying22 info5 _ (ints (hexb (l.take k))) _ _ _ _ (by rfl) (by rfl) ?aO (Kd.C_drew (lit_two _ _ _)) ?aB ?aL ?_; (case aO => repeat (first | exact HR.out | apply Kd.R_drewN | apply Kd.R_drew | apply Kd.R_alloc)); (case aB => have := HS.out.size; first | exact this | (simp; omega)); (case aL => rw [ints_len, hexb_len, List.length_take]; omega); intro v4 w4 hR4 hb4))
        all_goals
          have hR5 : Kd.R (Kd.int .u8) 5 w4 w.heap.size (fun _ => True) v4 (ints (hexb (l.take (k + 1)))) := by
            rw [List.take_succ_eq_append_getElem hlt, HX.out, hexb_snoc, ints_app, ← HQ.out, ← HM.out]
            exact hR4
          have HR5 := Aside0.mk hR5
          have HB5 : Aside0 (Below w.heap.size w w4) := Aside0.mk (Below.trans ((HS.out.alloc HS.out.size _).drew) hb4)
          clear hR4 hR5 hb4 x0 x1 eq16 er16 eq17 er17 hcl
          go_wp2_with fail
          go_roundw
          case rel => exact ⟨k + 1, by simp, by omega, HR5, HB5⟩
          case measure => simp [intOf]; omega
      · have ek : k = l.length := by omega
        subst ek
        have hlast := HR.out
        rw [List.take_length] at hlast
        obtain ⟨oA, oc, rfl⟩ := Kd.R_slice hlast
        have hst := Kd.C_string (P := Tryd.prog) (src := 22) (dst := 9) (c := oc) Tryd.underlying22 Tryd.underlying5 Tryd.underlying9 (Kd.R_reads' hlast).2.2
        rw [str_nums] at hst
        clear hlast hlt HR
        go_wp2_with fail
        go_ret
        exact ⟨rfl, HS.out⟩
end Go.Proofs.YtfjjikabinelgaaDoor
namespace Go.Proofs.YtfjjikabinelgaaDoor
open Go.RowKit Go.Lib Go.Maps Go.Proofs.YtfjjikabinelgaaDoorW.PrintWords Go.Proofs.YtfjjikabinelgaaDoorW.PrintLast Go.Proofs.YtfjjikabinelgaaDoorW.PrintMore Sc PScriptLines
set_option linter.unusedVariables false
set_option linter.unusedSimpArgs false

theorem rword_calls (k : Nat) (hk : k ≤ 9) (w : World) : Calls Tryd.prog 29 #[.int .u8 k] w fun e w' => e = .returned (.string (str (word k))) ∧ Below w.heap.size w w' := by
  refine (sumpterref34_Word.calls k (str (word k)) w (word_f k hk)).mono ?_
  rintro e w' ⟨rfl, hd⟩
  exact ⟨rfl, hd.below⟩
theorem rtold_calls (u : Nat) (hu : u ≤ 9223372036854775806) (w : World) : Calls Tryd.prog 40 #[.int .i64 u] w fun e w' => e = .returned (.string (str (decDigits u))) ∧ Below w.heap.size w w' := by
  obtain ⟨k, hk⟩ := (told_f u hu).rounds
  refine (sumpterref34_told.calls k u _ w hk).mono ?_
  rintro e w' ⟨rfl, hd⟩
  exact ⟨rfl, hd.below⟩
theorem rcheck_calls (l : List UInt8) (hl : l.length ≤ 1000000) (w : World) : Calls Tryd.prog 39 #[.string (str l)] w fun e w' => e = .returned (.int .i64 (checkN l)) ∧ Below w.heap.size w w' := by
  obtain ⟨k, hk⟩ := (check_f l hl).rounds
  exact sumpterref07_Check.calls k _ _ w hk
theorem rnumber_calls (l : List UInt8) (w : World) : Calls Tryd.prog 31 #[.string (str l)] w fun e w' => e = .returned (.int .i64 (numR l : Nat)) ∧ Below w.heap.size w w' := by
  obtain ⟨k, hk⟩ := (number_f l).rounds
  refine (sumpterref34_number.calls k _ _ w hk).mono ?_
  rintro e w' ⟨rfl, hd⟩
  exact ⟨rfl, hd.below⟩
theorem rbytes_calls (l : List UInt8) (hl : l.length ≤ 1000000) (w : World) : Calls Tryd.prog 32 #[.string (str l)] w fun e w' => ∃ v, e = .returned v ∧ Kd.R (Kd.int .u8) 5 w' w.heap.size (fun _ => True) v (ints (unhexW hexz l)) ∧ Below w.heap.size w w' := by
  obtain ⟨k, hk⟩ := (bytes_f l hl).rounds
  exact sumpterref34_bytes.calls k _ _ w hk
theorem rparts_calls (l : List UInt8) (hl : l.length ≤ 1000000) (w : World) : Calls Tryd.prog 28 #[.string (str l)] w fun e w' => ∃ v, e = .returned v ∧ Kd.R Kd.string 9 w' w.heap.size (fun _ => True) v ((spl 32 l).map str) ∧ Below w.heap.size w w' := by
  obtain ⟨k, hk⟩ := (parts_f l hl).rounds
  exact sumpterref34_parts.calls k _ _ w hk

/-! ### a step's text, as what is put behind its word -/
def bl (fs : List (List UInt8)) : List UInt8 := (fs.map fun f => 32 :: f).flatten
theorem bl_nil : bl [] = [] := rfl
theorem bl_app (a b : List (List UInt8)) : bl (a ++ b) = bl a ++ bl b := by simp [bl]
theorem bl_one (a : List UInt8) : bl [a] = 32 :: a := by simp [bl]
theorem joinc_bl (x : List UInt8) : ∀ fs : List (List UInt8), joinc 32 (x :: fs) = x ++ bl fs
  | [] => by simp [joinc, bl]
  | y :: r => by
    rw [joinc_cons 32 x (by simp), joinc_bl y r]
    simp [bl]
theorem text_bl {x : Stp} (h : has x) : textP x = word x.kind ++ bl (fSide x.kind x.side) ++ bl (fN x.kind x.n) ++ bl (fDraw x.kind x.draw ++ fDone x.kind x.done ++ fPath x.kind x.path ++ fData x.kind x.data) := by
  unfold textP
  rw [if_pos h]
  unfold Sc.fields
  rw [joinc_bl]
  simp only [bl_app, List.append_assoc]
end Go.Proofs.YtfjjikabinelgaaDoor
namespace Go.Proofs.YtfjjikabinelgaaDoor
open Go.Lib (decDigits)
open Go.RowKit Go.Maps Go.Proofs.YtfjjikabinelgaaDoorW.PrintWords Go.Proofs.YtfjjikabinelgaaDoorW.PrintLast Go.Proofs.YtfjjikabinelgaaDoorW.PrintMore Sc PScriptLines
set_option linter.unusedVariables false
set_option linter.unusedSimpArgs false

/-- The block of the step that Text was handed. -/
structure RTX (W : World) (cs : Array Value) (w : World) : Prop where
  xb : w.heap[W.heap.size]? = some (.cells cs 32 (0, 0))
  bel : Below W.heap.size W w
theorem RTX.below {W w w2 : World} {cs : Array Value} (H : RTX W cs w) (hb : Below w.heap.size w w2) : RTX W cs w2 :=
  ⟨(hb.block _ (blk_lt H.xb)).trans H.xb, H.bel.trans (hb.mono H.bel.size)⟩

theorem str_sz {S : ByteArray} {l : List UInt8} (h : S = str l) : S.size = l.length := by rw [h]; rfl
theorem put_bl {S T : ByteArray} {l t : List UInt8} (hS : S = str l) (hT : T = str t) : S ++ (⟨#[32]⟩ : ByteArray) ++ T = str (l ++ 32 :: t) := by
  subst hS hT
  show str l ++ str [32] ++ str t = _
  rw [str_append, str_append]
  simp
theorem sz_ok {a : Nat} (h : a ≤ 100000000) : decide (a ≤ 9223372036854775807) = true ∧ (9223372036854775807 < a) = False := ⟨decide_eq_true (by omega), eq_false (by omega)⟩
theorem sz_one (S : ByteArray) : (S ++ (⟨#[32]⟩ : ByteArray)).size = S.size + 1 := by rw [ByteArray.size_append]; rfl
theorem hexP_short {l : List UInt8} (h : l.length ≤ 1000000) : (hexP l).length ≤ 2000001 := by
  unfold hexP
  split
  · simp
  · rw [hexb_len]; omega
theorem dec_short {u : Nat} (h : u ≤ 1099511627776) : (decDigits u).length ≤ 13 := dec_len 12 u (by omega)

set_option maxHeartbeats 4000000 in
set_option maxRecDepth 100000 in
theorem rtext15_calls {k s d : Nat} {n : Int} {e : Bool} {p dat : List UInt8} {dv : Value} (hk : k < 256) (hs : s < 256) (hd : d < 4294967296) (hn0 : -9223372036854775808 ≤ n) (hn1 : n ≤ 9223372036854775807) (hp : p.length ≤ 1000000) (hdl : dat.length ≤ 1000000) (w : World) (h : By w dv dat) :
    Calls Tryd.prog 15 #[.agg #[.int .u8 k, .int .u8 s, .int .i64 n, .int .u32 d, .bool e, .string (str p), dv]] w fun r w' => r = .returned (.string (str (textP ⟨k, s, n, d, e, p, dat⟩))) ∧ Below w.heap.size w w' := by
  have HV := Aside0.mk h
  obtain ⟨A, c, rfl, _, _⟩ := h
  have hno : ¬ has ⟨k, s, n, d, e, p, dat⟩ → str (textP ⟨k, s, n, d, e, p, dat⟩) = ⟨#[]⟩ := fun h => by
    unfold textP
    rw [if_neg h]
    rfl
  have HNO := Aside0.mk hno
  clear hno
  have HBW : Aside0 (∀ cs : Array Value, RTX w cs (w.alloc (.cells cs 32))) := Aside0.mk (fun cs => ⟨heap_alloc_new w _, (Below.refl _ _).alloc (Nat.le_refl _) _⟩)
  by_cases h9 : (9 : Int) < k
  · go_enter Tryd.func15, Tryd.ntmps15
    go_wp2_with fail
    go_ret
    exact ⟨by rw [HNO.out (fun h => by have := h.1; simp only at this; omega)]; rfl, (HBW.out _).bel⟩
  by_cases hs1 : (1 : Int) < s
  · go_enter Tryd.func15, Tryd.ntmps15
    go_wp2_with fail
    go_ret
    exact ⟨by rw [HNO.out (fun h => by have := h.2.1; simp only at this; omega)]; rfl, (HBW.out _).bel⟩
  by_cases hlo : n < 0
  · go_enter Tryd.func15, Tryd.ntmps15
    go_wp2_with fail
    go_ret
    exact ⟨by rw [HNO.out (fun h => by have := h.2.2.1; simp only at this; omega)]; rfl, (HBW.out _).bel⟩
  by_cases hhi : (1099511627776 : Int) < n
  · go_enter Tryd.func15, Tryd.ntmps15
    go_wp2_with fail
    go_ret
    exact ⟨by rw [HNO.out (fun h => by have := h.2.2.2.1; simp only at this; omega)]; rfl, (HBW.out _).bel⟩
  obtain ⟨m, rfl⟩ : ∃ m : Nat, n = (m : Int) := ⟨n.toNat, by omega⟩
  go_enter Tryd.func15, Tryd.ntmps15
  go_upto_region 1 with fail
  go_cut [32] (fun v32 wc => v32 = .bool (decide (k = 9 ∧ checkN p ≠ 0)) ∧ Aside0 (RTX w #[.int .u8 k, .int .u8 s, .int .i64 m, .int .u32 d, .bool e, .string (str p), .slice A dat.length c] wc))
  case first =>
    by_cases hk9 : k = 9
    · subst hk9
      go_wp2_with fail
      refine (rcheck_calls p hp _).mono ?_
      rintro e1 w1 ⟨rfl, hb1⟩
      have HT := Aside0.mk ((HBW.out _).below hb1)
      clear hb1
      by_cases hz : checkN p = 0
      · have hzb : decide (9 = 9 ∧ checkN p ≠ 0) = false := decide_eq_false (fun h => h.2 hz)
        have HZB := Aside0.mk hzb
        rw [hz]
        clear hzb hz
        go_wp2_with fail
        go_meet
        exact ⟨by rw [HZB.out], HT⟩
      · have hzb : decide (9 = 9 ∧ checkN p ≠ 0) = true := decide_eq_true ⟨rfl, hz⟩
        have hq : (checkN p != 0) = true := bne_iff_ne.mpr hz
        have HZB := Aside0.mk hzb
        clear hzb hz
        go_wp2_with fail
        go_meet
        exact ⟨by rw [HZB.out], HT⟩
    · have hzb : decide (k = 9 ∧ checkN p ≠ 0) = false := decide_eq_false (fun h => hk9 h.1)
      have hkb : ((k : Int) == 9) = false := by rw [beq_eq_false_iff_ne]; omega
      have HZB := Aside0.mk hzb
      clear hk9 hzb
      go_wp2_with fail
      go_meet
      exact ⟨by rw [HZB.out], Aside0.mk (HBW.out _)⟩
  case rest =>
    obtain ⟨rfl, HT⟩ := hcut
    by_cases hbad : k = 9 ∧ checkN p ≠ 0
    · have hdb := decide_eq_true hbad
      have HBAD := Aside0.mk hbad
      rw [hdb]
      clear hbad hdb
      go_wp2_with fail
      go_ret
      exact ⟨by rw [HNO.out (fun h => HBAD.out.2 (h.2.2.2.2 HBAD.out.1))]; rfl, HT.out.bel⟩
    · have hdb := decide_eq_false hbad
      have HHAS : Aside0 (has ⟨k, s, m, d, e, p, dat⟩) := Aside0.mk ⟨by show k ≤ 9; omega, by show s ≤ 1; omega, by show (0 : Int) ≤ m; omega, by show (m : Int) ≤ 1099511627776; omega, fun h => by
        by_cases hz : checkN p = 0
        · exact hz
        · exact absurd ⟨h, hz⟩ hbad⟩
      have hk9 : k ≤ 9 := by omega
      have hs9 : s ≤ 1 := by omega
      have hm9 : m ≤ 1099511627776 := by omega
      rw [hdb]
      clear hbad hdb HNO HBW h9 hs1 hlo hhi hn0 hn1 hk hs
      have c0 : wc.cell? ⟨w.heap.size, 0, none⟩ = some (.int .u8 k) := blk_cell HT.out.xb 0
      go_wp2_with fail
      refine (rword_calls k hk9 _).mono ?_
      rintro e1 w1 ⟨rfl, hb1⟩
      have HT1 := Aside0.mk (HT.out.below hb1)
      clear hb1 c0 HT
      have c0 : w1.cell? ⟨w.heap.size, 0, none⟩ = some (.int .u8 k) := blk_cell HT1.out.xb 0
      obtain ⟨S0, hS0⟩ : ∃ S, S = str (word k) := ⟨_, rfl⟩
      rw [← hS0]
      have HS0 := Aside0.mk hS0
      clear hS0
      go_upto_if 38 with (go_at_call 30; refine (rsided_calls k hk9 _).mono ?_; rintro e1 w2 ⟨rfl, hb2⟩; have HT2 := Aside0.mk (HT1.out.below hb2); clear hb2)
      clear HT1 c0
      go_cut [3] (fun v3 wc => ∃ S : ByteArray, v3 = .string S ∧ Aside0 (S = str (word k ++ bl (fSide k s))) ∧ Aside0 (RTX w #[.int .u8 k, .int .u8 s, .int .i64 m, .int .u32 d, .bool e, .string (str p), .slice A dat.length c] wc))
      case first =>
        have l0 := str_sz HS0.out
        have hw := word_len k (by omega)
        by_cases hs : sided k = true
        · have HS := Aside0.mk hs
          rw [hs]
          clear hs
          have c1 : w2.cell? ⟨w.heap.size, 1, none⟩ = some (.int .u8 s) := blk_cell HT2.out.xb 1
          obtain ⟨T, hT⟩ : ∃ T, T = str (decDigits s) := ⟨_, rfl⟩
          have lt := str_sz hT
          have ht := dec_short (u := s) (by omega)
          have HTT := Aside0.mk hT
          have ls := sz_one S0
          have q0 : S0.size + 1 ≤ 9223372036854775807 := by omega
          have q1 : (S0 ++ (⟨#[32]⟩ : ByteArray)).size + T.size ≤ 9223372036854775807 := by omega
          obtain ⟨q2, q3⟩ := sz_ok (a := S0.size + 1) (by omega)
          obtain ⟨q4, q5⟩ := sz_ok (a := (S0 ++ (⟨#[32]⟩ : ByteArray)).size + T.size) (by omega)
          clear hT l0 hw lt ht ls
          go_wp2_with (go_at_call 40; refine (rtold_calls s (by omega) _).mono ?_; rw [← HTT.out]; rintro e1 w3 ⟨rfl, hb3⟩; have HT3 := Aside0.mk (HT2.out.below hb3); clear hb3)
          go_meet
          refine ⟨S0 ++ (⟨#[32]⟩ : ByteArray) ++ T, rfl, Aside0.mk ?_, HT3⟩
          rw [put_bl HS0.out HTT.out]
          unfold fSide
          rw [if_pos HS.out, bl_one]
        · have hs' : sided k = false := by simpa using hs
          have HS := Aside0.mk hs'
          rw [hs']
          clear hs hs' l0 hw
          go_wp2_with fail
          go_meet
          refine ⟨S0, rfl, Aside0.mk ?_, HT2⟩
          rw [HS0.out]
          unfold fSide
          rw [if_neg (by rw [HS.out]; decide), bl_nil, List.append_nil]
      case rest =>
        clear HT2 HS0
        obtain ⟨S1, rfl, HS1, HT2⟩ := hcut
        have c0 : wc.cell? ⟨w.heap.size, 0, none⟩ = some (.int .u8 k) := blk_cell HT2.out.xb 0
        go_upto_region 6 with fail
        go_cut [53] (fun v53 wc => v53 = .bool (hasN k) ∧ Aside0 (RTX w #[.int .u8 k, .int .u8 s, .int .i64 m, .int .u32 d, .bool e, .string (str p), .slice A dat.length c] wc))
        case first =>
          by_cases h5 : k = 5
          · subst h5
            go_wp2_with fail
            go_meet
            exact ⟨rfl, HT2⟩
          · have b5 : ((k : Int) != 5) = true := by rw [bne_iff_ne]; omega
            by_cases h9 : k = 9
            · subst h9
              clear h5
              go_wp2_with fail
              go_meet
              exact ⟨rfl, HT2⟩
            · have b9 : ((k : Int) != 9) = true := by rw [bne_iff_ne]; omega
              have e1 : hasN k = true := by unfold hasN; rw [decide_eq_true h5, decide_eq_true h9]; rfl
              have HE1 := Aside0.mk e1
              clear h5 h9 e1
              go_wp2_with fail
              go_meet
              exact ⟨by rw [HE1.out], HT2⟩
        case rest =>
          clear HT2 c0
          obtain ⟨rfl, HT2⟩ := hcut
          go_upto_if 53 with fail
          go_cut [3] (fun v3 wc => ∃ S : ByteArray, v3 = .string S ∧ Aside0 (S = str (word k ++ bl (fSide k s) ++ bl (fN k m))) ∧ Aside0 (S.size ≤ 10 + 14 + 14) ∧ Aside0 (RTX w #[.int .u8 k, .int .u8 s, .int .i64 m, .int .u32 d, .bool e, .string (str p), .slice A dat.length c] wc))
          case first =>
            have l0 := str_sz HS1.out
            have hw := word_len k (by omega)
            have hsd : (bl (fSide k s)).length ≤ 14 := by
              have ht := dec_short (u := s) (by omega)
              unfold fSide
              split
              · rw [bl_one, List.length_cons]; omega
              · rw [bl_nil]; simp
            rw [List.length_append] at l0
            by_cases hs : hasN k = true
            · have HS := Aside0.mk hs
              rw [hs]
              clear hs
              have c1 : wc.cell? ⟨w.heap.size, 2, none⟩ = some (.int .i64 m) := blk_cell HT2.out.xb 2
              obtain ⟨T, hT⟩ : ∃ T, T = str (decDigits m) := ⟨_, rfl⟩
              have lt := str_sz hT
              have ht := dec_short (u := m) (by omega)
              have HTT := Aside0.mk hT
              have ls := sz_one S1
              have lss : (S1 ++ (⟨#[32]⟩ : ByteArray) ++ T).size = (S1 ++ (⟨#[32]⟩ : ByteArray)).size + T.size := ByteArray.size_append
              have HLS : Aside0 ((S1 ++ (⟨#[32]⟩ : ByteArray) ++ T).size ≤ 10 + 14 + 14) := Aside0.mk (by omega)
              have q0 : S1.size + 1 ≤ 9223372036854775807 := by omega
              have q1 : (S1 ++ (⟨#[32]⟩ : ByteArray)).size + T.size ≤ 9223372036854775807 := by omega
              obtain ⟨q2, q3⟩ := sz_ok (a := S1.size + 1) (by omega)
              obtain ⟨q4, q5⟩ := sz_ok (a := (S1 ++ (⟨#[32]⟩ : ByteArray)).size + T.size) (by omega)
              clear hT l0 hw lt ht ls hsd lss
              go_wp2_with (go_at_call 40; refine (rtold_calls m (by omega) _).mono ?_; rw [← HTT.out]; rintro e1 w3 ⟨rfl, hb3⟩; have HT3 := Aside0.mk (HT2.out.below hb3); clear hb3)
              go_meet
              refine ⟨S1 ++ (⟨#[32]⟩ : ByteArray) ++ T, rfl, Aside0.mk ?_, HLS, HT3⟩
              rw [put_bl HS1.out HTT.out]
              unfold fN
              rw [if_pos HS.out, bl_one]
              rfl
            · have hs' : hasN k = false := by simpa using hs
              have HS := Aside0.mk hs'
              have HLS : Aside0 (S1.size ≤ 10 + 14 + 14) := Aside0.mk (by omega)
              rw [hs']
              clear hs hs' l0 hw hsd
              go_wp2_with fail
              go_meet
              refine ⟨S1, rfl, Aside0.mk ?_, HLS, HT2⟩
              rw [HS1.out]
              unfold fN
              rw [if_neg (by rw [HS.out]; decide), bl_nil, List.append_nil]
          case rest =>
            clear HT2 HS1
            obtain ⟨S2, rfl, HS2, HL2, HT2⟩ := hcut
            have HTX : Aside0 (str (textP ⟨k, s, m, d, e, p, dat⟩) = str (word k ++ bl (fSide k s) ++ bl (fN k m) ++ bl (fDraw k d ++ fDone k e ++ fPath k p ++ fData k dat))) := Aside0.mk (by rw [text_bl HHAS.out])
            -- the kinds
            have hcase : k = 0 ∨ k = 1 ∨ k = 2 ∨ k = 3 ∨ k = 4 ∨ k = 5 ∨ k = 6 ∨ k = 7 ∨ k = 8 ∨ k = 9 := by omega
            rcases hcase with rfl | rfl | rfl | rfl | rfl | rfl | rfl | rfl | rfl | rfl
            · have c0 : wc.cell? ⟨w.heap.size, 0, none⟩ = some (.int .u8 (0 : Nat)) := blk_cell HT2.out.xb 0
              have c3 : wc.cell? ⟨w.heap.size, 3, none⟩ = some (.int .u32 d) := blk_cell HT2.out.xb 3
              obtain ⟨T, hT⟩ : ∃ T, T = str (decDigits d) := ⟨_, rfl⟩
              have lt := str_sz hT
              have ht := dec_short (u := d) (by omega)
              have l2 := HL2.out
              have ls := sz_one S2
              have HTT := Aside0.mk hT
              have HE : Aside0 (S2 ++ (⟨#[32]⟩ : ByteArray) ++ T = str (textP ⟨0, s, m, d, e, p, dat⟩)) := Aside0.mk (by rw [HTX.out, put_bl HS2.out hT]; simp [fDraw, fDone, fPath, fData, bl, hasD])
              have q0 : S2.size + 1 ≤ 9223372036854775807 := by omega
              have q1 : (S2 ++ (⟨#[32]⟩ : ByteArray)).size + T.size ≤ 9223372036854775807 := by omega
              obtain ⟨q2, q3⟩ := sz_ok (a := S2.size + 1) (by omega)
              obtain ⟨q4, q5⟩ := sz_ok (a := (S2 ++ (⟨#[32]⟩ : ByteArray)).size + T.size) (by omega)
              clear hT lt ht ls l2 HHAS HTX hk9
              go_wp2_with (go_at_call 40; refine (rtold_calls d (by omega) _).mono ?_; rw [← HTT.out]; rintro e1 w3 ⟨rfl, hb3⟩; have HT3 := Aside0.mk (HT2.out.below hb3); clear hb3)
              go_ret
              exact ⟨by rw [← HE.out]; rfl, HT3.out.bel⟩
            · have c0 : wc.cell? ⟨w.heap.size, 0, none⟩ = some (.int .u8 (1 : Nat)) := blk_cell HT2.out.xb 0
              have HE : Aside0 (S2 = str (textP ⟨1, s, m, d, e, p, dat⟩)) := Aside0.mk (by rw [HTX.out, HS2.out]; simp [fDraw, fDone, fPath, fData, bl, hasD])
              clear HHAS HTX hk9
              go_wp2_with fail
              go_ret
              exact ⟨by rw [← HE.out]; rfl, HT2.out.bel⟩
            · have c0 : wc.cell? ⟨w.heap.size, 0, none⟩ = some (.int .u8 (2 : Nat)) := blk_cell HT2.out.xb 0
              have HE : Aside0 (S2 = str (textP ⟨2, s, m, d, e, p, dat⟩)) := Aside0.mk (by rw [HTX.out, HS2.out]; simp [fDraw, fDone, fPath, fData, bl, hasD])
              clear HHAS HTX hk9
              go_wp2_with fail
              go_ret
              exact ⟨by rw [← HE.out]; rfl, HT2.out.bel⟩
            · have c0 : wc.cell? ⟨w.heap.size, 0, none⟩ = some (.int .u8 (3 : Nat)) := blk_cell HT2.out.xb 0
              have HE : Aside0 (S2 = str (textP ⟨3, s, m, d, e, p, dat⟩)) := Aside0.mk (by rw [HTX.out, HS2.out]; simp [fDraw, fDone, fPath, fData, bl, hasD])
              clear HHAS HTX hk9
              go_wp2_with fail
              go_ret
              exact ⟨by rw [← HE.out]; rfl, HT2.out.bel⟩
            · have c0 : wc.cell? ⟨w.heap.size, 0, none⟩ = some (.int .u8 (4 : Nat)) := blk_cell HT2.out.xb 0
              have c6 : wc.cell? ⟨w.heap.size, 6, none⟩ = some (.slice A dat.length c) := blk_cell HT2.out.xb 6
              obtain ⟨T, hT⟩ : ∃ T, T = str (hexP dat) := ⟨_, rfl⟩
              have lt := str_sz hT
              have ht := hexP_short hdl
              have l2 := HL2.out
              have ls := sz_one S2
              have HTT := Aside0.mk hT
              have HE : Aside0 (S2 ++ (⟨#[32]⟩ : ByteArray) ++ T = str (textP ⟨4, s, m, d, e, p, dat⟩)) := Aside0.mk (by rw [HTX.out, put_bl HS2.out hT]; simp [fDraw, fDone, fPath, fData, bl, hasD])
              have q0 : S2.size + 1 ≤ 9223372036854775807 := by omega
              have q1 : (S2 ++ (⟨#[32]⟩ : ByteArray)).size + T.size ≤ 9223372036854775807 := by omega
              obtain ⟨q2, q3⟩ := sz_ok (a := S2.size + 1) (by omega)
              obtain ⟨q4, q5⟩ := sz_ok (a := (S2 ++ (⟨#[32]⟩ : ByteArray)).size + T.size) (by omega)
              clear hT lt ht ls l2 HHAS HTX hk9
              go_wp2_with (go_at_call 41; refine (rhex_calls hdl _ (HV.out.below HT2.out.bel)).mono ?_; rw [← HTT.out]; rintro e1 w3 ⟨rfl, hb3⟩; have HT3 := Aside0.mk (HT2.out.below hb3); clear hb3)
              go_ret
              exact ⟨by rw [← HE.out]; rfl, HT3.out.bel⟩
            · have c0 : wc.cell? ⟨w.heap.size, 0, none⟩ = some (.int .u8 (5 : Nat)) := blk_cell HT2.out.xb 0
              have c6 : wc.cell? ⟨w.heap.size, 6, none⟩ = some (.slice A dat.length c) := blk_cell HT2.out.xb 6
              obtain ⟨T, hT⟩ : ∃ T, T = str (hexP dat) := ⟨_, rfl⟩
              have lt := str_sz hT
              have ht := hexP_short hdl
              have l2 := HL2.out
              have ls := sz_one S2
              have HTT := Aside0.mk hT
              have HE : Aside0 (S2 ++ (⟨#[32]⟩ : ByteArray) ++ T = str (textP ⟨5, s, m, d, e, p, dat⟩)) := Aside0.mk (by rw [HTX.out, put_bl HS2.out hT]; simp [fDraw, fDone, fPath, fData, bl, hasD])
              have q0 : S2.size + 1 ≤ 9223372036854775807 := by omega
              have q1 : (S2 ++ (⟨#[32]⟩ : ByteArray)).size + T.size ≤ 9223372036854775807 := by omega
              obtain ⟨q2, q3⟩ := sz_ok (a := S2.size + 1) (by omega)
              obtain ⟨q4, q5⟩ := sz_ok (a := (S2 ++ (⟨#[32]⟩ : ByteArray)).size + T.size) (by omega)
              clear hT lt ht ls l2 HHAS HTX hk9
              go_wp2_with (go_at_call 41; refine (rhex_calls hdl _ (HV.out.below HT2.out.bel)).mono ?_; rw [← HTT.out]; rintro e1 w3 ⟨rfl, hb3⟩; have HT3 := Aside0.mk (HT2.out.below hb3); clear hb3)
              go_ret
              exact ⟨by rw [← HE.out]; rfl, HT3.out.bel⟩
            · have c0 : wc.cell? ⟨w.heap.size, 0, none⟩ = some (.int .u8 (6 : Nat)) := blk_cell HT2.out.xb 0
              have c6 : wc.cell? ⟨w.heap.size, 6, none⟩ = some (.slice A dat.length c) := blk_cell HT2.out.xb 6
              obtain ⟨T, hT⟩ : ∃ T, T = str (hexP dat) := ⟨_, rfl⟩
              have lt := str_sz hT
              have ht := hexP_short hdl
              have l2 := HL2.out
              have ls := sz_one S2
              have HTT := Aside0.mk hT
              have HE : Aside0 (S2 ++ (⟨#[32]⟩ : ByteArray) ++ T = str (textP ⟨6, s, m, d, e, p, dat⟩)) := Aside0.mk (by rw [HTX.out, put_bl HS2.out hT]; simp [fDraw, fDone, fPath, fData, bl, hasD])
              have q0 : S2.size + 1 ≤ 9223372036854775807 := by omega
              have q1 : (S2 ++ (⟨#[32]⟩ : ByteArray)).size + T.size ≤ 9223372036854775807 := by omega
              obtain ⟨q2, q3⟩ := sz_ok (a := S2.size + 1) (by omega)
              obtain ⟨q4, q5⟩ := sz_ok (a := (S2 ++ (⟨#[32]⟩ : ByteArray)).size + T.size) (by omega)
              clear hT lt ht ls l2 HHAS HTX hk9
              go_wp2_with (go_at_call 41; refine (rhex_calls hdl _ (HV.out.below HT2.out.bel)).mono ?_; rw [← HTT.out]; rintro e1 w3 ⟨rfl, hb3⟩; have HT3 := Aside0.mk (HT2.out.below hb3); clear hb3)
              go_ret
              exact ⟨by rw [← HE.out]; rfl, HT3.out.bel⟩
            · have c0 : wc.cell? ⟨w.heap.size, 0, none⟩ = some (.int .u8 (7 : Nat)) := blk_cell HT2.out.xb 0
              have l2 := HL2.out
              have q0 : S2.size + 2 ≤ 9223372036854775807 := by omega
              obtain ⟨q2, q3⟩ := sz_ok (a := S2.size + 2) (by omega)
              have c4 : wc.cell? ⟨w.heap.size, 4, none⟩ = some (.bool e) := blk_cell HT2.out.xb 4
              cases e with
              | true =>
                have HE : Aside0 (S2 ++ (⟨#[32, 49]⟩ : ByteArray) = str (textP ⟨7, s, m, d, true, p, dat⟩)) := Aside0.mk (by
                  rw [HTX.out, HS2.out]
                  show str _ ++ str [32, 49] = _
                  rw [str_append]
                  simp [fDraw, fDone, fPath, fData, bl, hasD])
                clear HHAS HTX hk9 l2
                go_wp2_with fail
                go_ret
                exact ⟨by rw [← HE.out]; rfl, HT2.out.bel⟩
              | false =>
                have HE : Aside0 (S2 ++ (⟨#[32, 48]⟩ : ByteArray) = str (textP ⟨7, s, m, d, false, p, dat⟩)) := Aside0.mk (by
                  rw [HTX.out, HS2.out]
                  show str _ ++ str [32, 48] = _
                  rw [str_append]
                  simp [fDraw, fDone, fPath, fData, bl, hasD])
                clear HHAS HTX hk9 l2
                go_wp2_with fail
                go_ret
                exact ⟨by rw [← HE.out]; rfl, HT2.out.bel⟩
            · have c0 : wc.cell? ⟨w.heap.size, 0, none⟩ = some (.int .u8 (8 : Nat)) := blk_cell HT2.out.xb 0
              have HE : Aside0 (S2 = str (textP ⟨8, s, m, d, e, p, dat⟩)) := Aside0.mk (by rw [HTX.out, HS2.out]; simp [fDraw, fDone, fPath, fData, bl, hasD])
              clear HHAS HTX hk9
              go_wp2_with fail
              go_ret
              exact ⟨by rw [← HE.out]; rfl, HT2.out.bel⟩
            · have c0 : wc.cell? ⟨w.heap.size, 0, none⟩ = some (.int .u8 (9 : Nat)) := blk_cell HT2.out.xb 0
              have c6 : wc.cell? ⟨w.heap.size, 6, none⟩ = some (.slice A dat.length c) := blk_cell HT2.out.xb 6
              obtain ⟨PB, hPB⟩ : ∃ PB, PB = str p := ⟨_, rfl⟩
              have HPB := Aside0.mk hPB
              have c5 : wc.cell? ⟨w.heap.size, 5, none⟩ = some (.string PB) := by rw [hPB]; exact blk_cell HT2.out.xb 5
              obtain ⟨T, hT⟩ : ∃ T, T = str (hexP dat) := ⟨_, rfl⟩
              have lt := str_sz hT
              have ht := hexP_short hdl
              have l2 := HL2.out
              have ls := sz_one S2
              have lp := str_sz hPB
              have ls2 : (S2 ++ (⟨#[32]⟩ : ByteArray) ++ PB).size = (S2 ++ (⟨#[32]⟩ : ByteArray)).size + PB.size := ByteArray.size_append
              have ls3 := sz_one (S2 ++ (⟨#[32]⟩ : ByteArray) ++ PB)
              have HTT := Aside0.mk hT
              have HE : Aside0 (S2 ++ (⟨#[32]⟩ : ByteArray) ++ PB ++ (⟨#[32]⟩ : ByteArray) ++ T = str (textP ⟨9, s, m, d, e, p, dat⟩)) := Aside0.mk (by
                have h1 := put_bl HS2.out hPB
                have h2 := put_bl h1 hT
                rw [HTX.out, h2]; simp [fDraw, fDone, fPath, fData, bl, hasD])
              have q0 : S2.size + 1 ≤ 9223372036854775807 := by omega
              have q1 : (S2 ++ (⟨#[32]⟩ : ByteArray)).size + PB.size ≤ 9223372036854775807 := by omega
              have q6 : (S2 ++ (⟨#[32]⟩ : ByteArray) ++ PB).size + 1 ≤ 9223372036854775807 := by omega
              have q7 : (S2 ++ (⟨#[32]⟩ : ByteArray) ++ PB ++ (⟨#[32]⟩ : ByteArray)).size + T.size ≤ 9223372036854775807 := by omega
              obtain ⟨q2, q3⟩ := sz_ok (a := S2.size + 1) (by omega)
              obtain ⟨q4, q5⟩ := sz_ok (a := (S2 ++ (⟨#[32]⟩ : ByteArray)).size + PB.size) (by omega)
              obtain ⟨q8, q9⟩ := sz_ok (a := (S2 ++ (⟨#[32]⟩ : ByteArray) ++ PB).size + 1) (by omega)
              obtain ⟨q10, q11⟩ := sz_ok (a := (S2 ++ (⟨#[32]⟩ : ByteArray) ++ PB ++ (⟨#[32]⟩ : ByteArray)).size + T.size) (by omega)
              obtain ⟨r0, r1⟩ := sz_ok (a := S2.size + 1 + PB.size) (by omega)
              obtain ⟨r2, r3⟩ := sz_ok (a := S2.size + 1 + PB.size + 1) (by omega)
              obtain ⟨r4, r5⟩ := sz_ok (a := S2.size + 1 + PB.size + 1 + T.size) (by omega)
              have r6 : S2.size + 1 + PB.size ≤ 9223372036854775807 := by omega
              have r7 : S2.size + 1 + PB.size + 1 ≤ 9223372036854775807 := by omega
              have r8 : S2.size + 1 + PB.size + 1 + T.size ≤ 9223372036854775807 := by omega
              clear hPB hT lt ht ls l2 HHAS HTX hk9 lp ls2 ls3
              go_wp2_with fail
              go_region_held3 (fun w' => w'.cell? ⟨w.heap.size, 5, none⟩ = some (.string PB) ∧ w'.cell? ⟨w.heap.size, 6, none⟩ = some (.slice A dat.length c)) (first | go_keep | exact ⟨by rw [HPB.out]; exact blk_cell HT3.out.xb 5, blk_cell HT3.out.xb 6⟩ | exact ⟨by rw [HPB.out]; exact blk_cell (HT3.out.below ((Below.refl _ _).drew)).xb 5, blk_cell (HT3.out.below ((Below.refl _ _).drew)).xb 6⟩) ((go_at_call 41; refine (rhex_calls hdl _ (HV.out.below (by repeat (first | exact HT2.out.bel | apply pw_below_drewN | apply below_drew1)))).mono ?_; rw [← HTT.out]; rintro e1 w3 ⟨rfl, hb3⟩; have HT3 := Aside0.mk (HT2.out.below (Below.trans (by repeat (first | exact Below.refl _ _ | apply pw_below_drewN | apply below_drew1)) hb3)); clear hb3))
              all_goals
                go_wp2_with fail
                go_ret
                exact ⟨by rw [← HE.out]; rfl, HT3.out.bel⟩
end Go.Proofs.YtfjjikabinelgaaDoor
