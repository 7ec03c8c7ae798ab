/- Plain laws: what the bytes of a script are as steps; a step as text, a line as a step. -/
import Derived.Lib.ItoaNum
import Derived.Lib.ParseIntB
namespace Go.Proofs.YtfjjikabinelgaaDoor.Sc

/-- A step of a script, as plain data. -/
structure Stp where
  kind : Nat
  side : Nat
  n : Int
  draw : Nat
  done : Bool
  path : List UInt8
  data : List UInt8

def Stp.nil : Stp := ⟨0, 0, 0, 0, false, [], []⟩

/-- A byte off; 0, if it is missing. -/
def one : List UInt8 → Nat × List UInt8
  | [] => (0, [])
  | c :: r => (c.toNat, r)

/-- How many bytes a text of at most m has. -/
def txtN (m : Nat) (b : List UInt8) : Nat := min ((one b).1 % (m + 1)) (one b).2.length
def txt (m : Nat) (b : List UInt8) : List UInt8 × List UInt8 := ((one b).2.take (txtN m b), (one b).2.drop (txtN m b))

/-- A step behind its first byte k. -/
def stepK (k : Nat) (b : List UInt8) : Stp × List UInt8 :=
  if k % 10 = 0 then (⟨0, 0, (((one b).1 % 65 : Nat) : Int), (one (one b).2).1, false, [], []⟩, (one (one b).2).2)
  else if k % 10 = 4 then (⟨4, 0, ((one b).1 : Int), 0, false, [], (txt 15 (one b).2).1⟩, (txt 15 (one b).2).2)
  else if k % 10 = 5 then (⟨5, k / 10 % 2, 0, 0, false, [], (txt 63 b).1⟩, (txt 63 b).2)
  else if k % 10 = 6 then (⟨6, k / 10 % 2, ((one b).1 : Int), 0, false, [], (txt 7 (one b).2).1⟩, (txt 7 (one b).2).2)
  else if k % 10 = 7 then (⟨7, k / 10 % 2, ((one b).1 : Int), 0, decide (k / 20 % 2 = 1), [], []⟩, (one b).2)
  else if k % 10 = 8 then (⟨8, k / 10 % 2, ((one b).1 : Int), 0, false, [], []⟩, (one b).2)
  else if k % 10 = 9 then (⟨9, 0, 0, 0, false, (txt 7 b).1, (txt 63 (txt 7 b).2).1⟩, (txt 63 (txt 7 b).2).2)
  else (⟨k % 10, 0, ((one b).1 : Int), 0, false, [], []⟩, (one b).2)

def step (b : List UInt8) : Stp × List UInt8 := stepK (one b).1 (one b).2

/-- At most f steps. -/
def decode : Nat → List UInt8 → List Stp
  | 0, _ => []
  | f + 1, b => if b = [] then [] else (step b).1 :: decode f (step b).2

theorem one_lt (b : List UInt8) : (one b).1 < 256 := by
  cases b with
  | nil => simp [one]
  | cons c r => exact c.toNat_lt

theorem one_len (b : List UInt8) : (one b).2.length ≤ b.length := by cases b <;> simp [one]
theorem one_len_lt {b : List UInt8} (h : b ≠ []) : (one b).2.length < b.length := by
  cases b with
  | nil => exact absurd rfl h
  | cons c r => simp [one]
theorem txt_len (m : Nat) (b : List UInt8) : (txt m b).2.length ≤ b.length := by
  have := one_len b
  simp only [txt, List.length_drop]; omega
theorem stepK_len (k : Nat) (b : List UInt8) : (stepK k b).2.length ≤ b.length := by
  have h1 := one_len b
  have h2 := one_len (one b).2
  have h3 := txt_len 15 (one b).2
  have h4 := txt_len 63 b
  have h5 := txt_len 7 (one b).2
  have h6 := txt_len 7 b
  have h7 := txt_len 63 (txt 7 b).2
  unfold stepK
  split; · simp only; omega
  split; · simp only; omega
  split; · simp only; omega
  split; · simp only; omega
  split; · simp only; omega
  split; · simp only; omega
  split; · simp only; omega
  simp only; omega
theorem step_len {b : List UInt8} (h : b ≠ []) : (step b).2.length < b.length := by
  have := one_len_lt h
  have := stepK_len (one b).1 (one b).2
  unfold step; omega

theorem one_app {p : List UInt8} (q : List UInt8) (h : p ≠ []) : one (p ++ q) = ((one p).1, (one p).2 ++ q) := by
  cases p with
  | nil => exact absurd rfl h
  | cons c r => rfl
theorem one_back {p : List UInt8} (h : (one p).2 ≠ []) : p ≠ [] := by
  rintro rfl; exact h rfl
theorem txt_back {m : Nat} {p : List UInt8} (h : (txt m p).2 ≠ []) : p ≠ [] := by
  rintro rfl; exact h (by simp [txt, one])
theorem txt_app {m : Nat} {p : List UInt8} (q : List UInt8) (h : (txt m p).2 ≠ []) : txt m (p ++ q) = ((txt m p).1, (txt m p).2 ++ q) := by
  have hp := txt_back h
  have hl : txtN m p < (one p).2.length := by
    rcases Nat.lt_or_ge (txtN m p) (one p).2.length with h1 | h1
    · exact h1
    · exact absurd (List.drop_eq_nil_of_le h1) h
  have hn : txtN m (p ++ q) = txtN m p := by
    unfold txtN at hl ⊢
    rw [one_app q hp]
    simp only [List.length_append]
    omega
  have ho := one_app q hp
  simp only [txt, hn, ho]
  rw [List.take_append_of_le_length (by omega), List.drop_append_of_le_length (by omega)]

theorem stepK_app (k : Nat) {p : List UInt8} (q : List UInt8) (h : (stepK k p).2 ≠ []) : stepK k (p ++ q) = ((stepK k p).1, (stepK k p).2 ++ q) := by
  unfold stepK at h ⊢
  by_cases h0 : k % 10 = 0
  · simp only [if_pos h0] at h ⊢
    have h1 := one_back h
    have h2 := one_back h1
    rw [one_app q h2]; simp only [one_app q h1]
  simp only [if_neg h0] at h ⊢
  by_cases h0 : k % 10 = 4
  · simp only [if_pos h0] at h ⊢
    have h1 := txt_back h
    have h2 := one_back h1
    rw [one_app q h2]; simp only [txt_app q h]
  simp only [if_neg h0] at h ⊢
  by_cases h0 : k % 10 = 5
  · simp only [if_pos h0] at h ⊢
    simp only [txt_app q h]
  simp only [if_neg h0] at h ⊢
  by_cases h0 : k % 10 = 6
  · simp only [if_pos h0] at h ⊢
    have h1 := txt_back h
    have h2 := one_back h1
    rw [one_app q h2]; simp only [txt_app q h]
  simp only [if_neg h0] at h ⊢
  by_cases h0 : k % 10 = 7
  · simp only [if_pos h0] at h ⊢
    simp only [one_app q (one_back h)]
  simp only [if_neg h0] at h ⊢
  by_cases h0 : k % 10 = 8
  · simp only [if_pos h0] at h ⊢
    simp only [one_app q (one_back h)]
  simp only [if_neg h0] at h ⊢
  by_cases h0 : k % 10 = 9
  · simp only [if_pos h0] at h ⊢
    have h1 := txt_back h
    rw [txt_app q h1]; simp only [txt_app q h]
  simp only [if_neg h0] at h ⊢
  simp only [one_app q (one_back h)]

theorem step_app {p : List UInt8} (q : List UInt8) (h : (step p).2 ≠ []) : step (p ++ q) = ((step p).1, (step p).2 ++ q) := by
  unfold step at h ⊢
  have hp : p ≠ [] := one_back fun e => h (by
    have := stepK_len (one p).1 (one p).2
    rw [e] at this ⊢
    exact List.eq_nil_of_length_eq_zero (by simpa using this))
  simp only [one_app q hp]
  exact stepK_app _ q h

theorem decode_le (f : Nat) : ∀ b : List UInt8, (decode f b).length ≤ b.length := by
  induction f with
  | zero => intro b; simp [decode]
  | succ f ih =>
    intro b
    unfold decode
    split
    · simp
    · next h =>
      have := step_len h
      have := ih (step b).2
      simp only [List.length_cons]; omega

theorem decode_fuel (f : Nat) : ∀ b : List UInt8, (decode f b).length ≤ f := by
  induction f with
  | zero => intro b; simp [decode]
  | succ f ih =>
    intro b
    unfold decode
    split
    · simp
    · have := ih (step b).2
      simp only [List.length_cons]; omega

/-- The steps of a beginning of bytes are, but for the last one, the first ones of all. -/
theorem decode_begins (f : Nat) : ∀ p q : List UInt8, (decode f p).length ≤ (decode f (p ++ q)).length ∧ ∀ i, i + 1 < (decode f p).length → (decode f p)[i]? = (decode f (p ++ q))[i]? := by
  induction f with
  | zero => intro p q; exact ⟨by simp [decode], fun i hi => by simp [decode] at hi⟩
  | succ f ih =>
    intro p q
    by_cases hp : p = []
    · subst hp
      exact ⟨by simp [decode], fun i hi => by simp [decode] at hi⟩
    · have hpq : p ++ q ≠ [] := by simp [hp]
      by_cases hr : (step p).2 = []
      · have e : decode (f + 1) p = [(step p).1] := by
          unfold decode; rw [if_neg hp, hr]
          cases f <;> simp [decode]
        refine ⟨?_, fun i hi => by rw [e] at hi; simp at hi⟩
        rw [e]; unfold decode; rw [if_neg hpq]; simp
      · have hs := step_app q hr
        have e1 : decode (f + 1) p = (step p).1 :: decode f (step p).2 := by
          rw [decode, if_neg hp]
        have e2 : decode (f + 1) (p ++ q) = (step p).1 :: decode f ((step p).2 ++ q) := by
          rw [decode, if_neg hpq, hs]
        obtain ⟨i1, i2⟩ := ih (step p).2 q
        rw [e1, e2]
        refine ⟨by simpa using i1, fun i hi => ?_⟩
        cases i with
        | zero => rfl
        | succ i =>
          simp only [List.length_cons] at hi
          simpa using i2 i (by omega)
end Go.Proofs.YtfjjikabinelgaaDoor.Sc
namespace Go.Proofs.YtfjjikabinelgaaDoor.Sc
open Go.Lib

/-! ### parts between a byte -/

/-- A text cut at each byte c. -/
def spl (c : UInt8) : List UInt8 → List (List UInt8)
  | [] => [[]]
  | x :: r => if x = c then [] :: spl c r else (x :: (spl c r).headD []) :: (spl c r).tail

/-- Parts with a byte c between. -/
def joinc (c : UInt8) : List (List UInt8) → List UInt8
  | [] => []
  | [x] => x
  | x :: y :: r => x ++ c :: joinc c (y :: r)

theorem spl_ne (c : UInt8) (l : List UInt8) : spl c l ≠ [] := by
  cases l with
  | nil => simp [spl]
  | cons x r => unfold spl; split <;> simp

theorem joinc_cons (c : UInt8) (x : List UInt8) {r : List (List UInt8)} (h : r ≠ []) : joinc c (x :: r) = x ++ c :: joinc c r := by
  cases r with
  | nil => exact absurd rfl h
  | cons y r => rfl

theorem joinc_push (c d : UInt8) (x : List UInt8) (r : List (List UInt8)) : joinc c ((d :: x) :: r) = d :: joinc c (x :: r) := by
  cases r <;> rfl

theorem joinc_spl (c : UInt8) (l : List UInt8) : joinc c (spl c l) = l := by
  induction l with
  | nil => rfl
  | cons x r ih =>
    unfold spl
    have hne := spl_ne c r
    split
    · next h => rw [joinc_cons c [] hne, ih, h]; rfl
    · rw [joinc_push]
      cases hs : spl c r with
      | nil => exact absurd hs hne
      | cons y t => rw [hs] at ih; simp [ih]

theorem spl_free (c : UInt8) {x : List UInt8} (h : c ∉ x) : spl c x = [x] := by
  induction x with
  | nil => rfl
  | cons y r ih =>
    simp only [List.mem_cons, not_or] at h
    unfold spl
    rw [if_neg (fun e => h.1 e.symm), ih h.2]
    rfl

theorem spl_app (c : UInt8) {x : List UInt8} (r : List UInt8) (h : c ∉ x) : spl c (x ++ c :: r) = x :: spl c r := by
  induction x with
  | nil => simp [spl]
  | cons y t ih =>
    simp only [List.mem_cons, not_or] at h
    rw [List.cons_append, spl, if_neg (fun e => h.1 e.symm), ih h.2]
    rfl

theorem spl_joinc (c : UInt8) : ∀ (xs : List (List UInt8)), xs ≠ [] → (∀ x ∈ xs, c ∉ x) → spl c (joinc c xs) = xs
  | [], h, _ => absurd rfl h
  | [x], _, h => spl_free c (h x (by simp))
  | x :: y :: r, _, h => by
    rw [joinc_cons c x (by simp), spl_app c _ (h x (by simp)), spl_joinc c (y :: r) (by simp) (fun z hz => h z (by simp [hz]))]

theorem spl_parts (c : UInt8) (l : List UInt8) : ∀ x ∈ spl c l, c ∉ x := by
  induction l with
  | nil => intro x hx; simp [spl] at hx; subst hx; simp
  | cons y r ih =>
    intro x hx
    unfold spl at hx
    have hne := spl_ne c r
    split at hx
    · rcases List.mem_cons.1 hx with rfl | hx
      · simp
      · exact ih x hx
    · next h =>
      cases hs : spl c r with
      | nil => exact absurd hs hne
      | cons z t =>
        rw [hs] at hx ih
        simp only [List.headD_cons, List.tail_cons, List.mem_cons] at hx
        rcases hx with rfl | hx
        · have := ih z (by simp)
          simp only [List.mem_cons, not_or]
          exact ⟨fun e => h e.symm, this⟩
        · exact ih x (by simp [hx])

theorem spl_len (c : UInt8) (l : List UInt8) : (spl c l).length = l.count c + 1 := by
  induction l with
  | nil => rfl
  | cons y r ih =>
    unfold spl
    have hne := spl_ne c r
    split
    · next h => subst h; simp [ih]
    · next h =>
      rw [List.count_cons_of_ne (by simpa using h), ← ih]
      cases hs : spl c r with
      | nil => exact absurd hs hne
      | cons z t => simp

/-! ### numerals -/

theorem dec_small {u : Nat} (h : u < 10) : decDigits u = [UInt8.ofNat (48 + u)] := by rw [decDigits, dif_pos h]
theorem dec_big {u : Nat} (h : ¬ u < 10) : decDigits u = decDigits (u / 10) ++ [UInt8.ofNat (48 + u % 10)] := by rw [decDigits, dif_neg h]

theorem dig_nat {d : Nat} (h : d < 10) : (UInt8.ofNat (48 + d)).toNat = 48 + d := by
  rw [UInt8.toNat_ofNat']; omega

theorem dec_digits (u : Nat) : ∀ c ∈ decDigits u, 48 ≤ c.toNat ∧ c.toNat ≤ 57 := by
  induction u using Nat.strongRecOn with
  | _ u ih =>
    intro c hc
    by_cases h : u < 10
    · rw [dec_small h] at hc
      obtain rfl := List.mem_singleton.1 hc
      rw [dig_nat h]; omega
    · rw [dec_big h] at hc
      rcases List.mem_append.1 hc with hc | hc
      · exact ih (u / 10) (by omega) c hc
      · obtain rfl := List.mem_singleton.1 hc
        rw [dig_nat (by omega)]; omega

theorem dec_ne (u : Nat) : decDigits u ≠ [] := by
  by_cases h : u < 10
  · rw [dec_small h]; simp
  · rw [dec_big h]; simp

theorem dec_free (u : Nat) {c : UInt8} (h : c.toNat < 48) : c ∉ decDigits u := fun hc => by
  have := dec_digits u c hc; omega

theorem parseM_snoc (M : Nat) (c : UInt8) : ∀ (l : List UInt8) (a : Nat), parseUintM M a (l ++ [c]) = match parseUintM M a l with
    | .ok v => parseUintM M v [c]
    | e => e
  | [], a => by simp [parseUintM]
  | x :: r, a => by
    simp only [List.cons_append, parseUintM]
    split
    · split
      · rfl
      · split
        · rfl
        · exact parseM_snoc M c r _
    · rfl

theorem parseM_dec (M : Nat) (hM : M ≤ 18446744073709551615) (u : Nat) : u ≤ M → parseUintM M 0 (decDigits u) = .ok u := by
  induction u using Nat.strongRecOn with
  | _ u ih =>
    intro hu
    by_cases h : u < 10
    · rw [dec_small h]
      have := dig_nat h
      simp only [parseUintM, this]
      rw [if_pos (by omega), if_neg (by omega), if_neg (by omega)]
      congr 1; omega
    · rw [dec_big h, parseM_snoc, ih (u / 10) (by omega) (by omega)]
      have := dig_nat (d := u % 10) (by omega)
      simp only [parseUintM, this]
      rw [if_pos (by omega), if_neg (by omega), if_neg (by omega)]
      congr 1; omega

theorem parseB_dec {B : Nat} (hB : 2 ^ B - 1 ≤ 18446744073709551615) {u : Nat} (hu : u < 2 ^ B) : parseUintB B (decDigits u) = .ok u := by
  unfold parseUintB
  rw [if_neg (dec_ne u)]
  exact parseM_dec _ hB u (by omega)

/-- The number that up to 18 bytes are, as if they were digits. -/
def numAux : Nat → Nat → List UInt8 → Nat
  | 0, a, _ => a
  | _ + 1, a, [] => a
  | f + 1, a, c :: r => numAux f (10 * a + ((c.toNat + 208) % 256) % 10) r
def numR (l : List UInt8) : Nat := numAux 18 0 l

theorem numAux_snoc (c : UInt8) : ∀ (f a : Nat) (l : List UInt8), l.length < f → numAux f a (l ++ [c]) = 10 * numAux f a l + ((c.toNat + 208) % 256) % 10
  | 0, _, l, h => by omega
  | f + 1, a, [], _ => by cases f <;> simp [numAux]
  | f + 1, a, x :: r, h => by
    simp only [List.cons_append, numAux]
    exact numAux_snoc c f _ r (by simp at h; omega)

theorem numAux_lt : ∀ (f a : Nat) (l : List UInt8) (B : Nat), a < B → numAux f a l < B * 10 ^ f
  | 0, a, l, B, h => by simpa [numAux] using h
  | f + 1, a, [], B, h => by
    simp only [numAux]
    have : 1 ≤ 10 ^ (f + 1) := Nat.one_le_pow _ _ (by decide)
    exact Nat.lt_of_lt_of_le h (Nat.le_mul_of_pos_right _ this)
  | f + 1, a, c :: r, B, h => by
    simp only [numAux]
    have := numAux_lt f (10 * a + ((c.toNat + 208) % 256) % 10) r (10 * B) (by omega)
    rw [Nat.pow_succ]
    rw [show B * (10 ^ f * 10) = 10 * B * 10 ^ f from by rw [Nat.mul_comm (10 ^ f) 10, ← Nat.mul_assoc, Nat.mul_comm B 10]]
    exact this
theorem numR_lt (l : List UInt8) : numR l < 1000000000000000000 := by
  have := numAux_lt 18 0 l 1 (by omega)
  simpa [numR] using this

theorem dec_len : ∀ (k u : Nat), u < 10 ^ (k + 1) → (decDigits u).length ≤ k + 1
  | 0, u, h => by rw [dec_small (by simpa using h)]; simp
  | k + 1, u, h => by
    by_cases hs : u < 10
    · rw [dec_small hs]; simp
    · rw [dec_big hs, List.length_append]
      have := dec_len k (u / 10) (by rw [Nat.pow_succ] at h; omega)
      simp; omega

theorem numAux_dec (u : Nat) : u < 10 ^ 18 → numAux 18 0 (decDigits u) = u := by
  induction u using Nat.strongRecOn with
  | _ u ih =>
    intro hu
    by_cases h : u < 10
    · rw [dec_small h]
      have := dig_nat h
      simp only [numAux, this]
      omega
    · have hl := dec_len 16 (u / 10) (by omega)
      rw [dec_big h, numAux_snoc _ _ _ _ (by omega), ih (u / 10) (by omega) (by omega), dig_nat (by omega)]
      omega
theorem numR_dec {u : Nat} (h : u < 1000000000000000000) : numR (decDigits u) = u := numAux_dec u (by simpa using h)

/-- The numeral as it is built from its end. -/
theorem dec_step (u : Nat) (s : List UInt8) : decDigits u ++ s = (if u < 10 then [] else decDigits (u / 10)) ++ (UInt8.ofNat (48 + u % 10) :: s) := by
  by_cases h : u < 10
  · rw [dec_small h, if_pos h, Nat.mod_eq_of_lt h]; rfl
  · rw [dec_big h, if_neg h]; simp

/-! ### digits to the base 16 -/

def hexd (n : Nat) : UInt8 := if n < 10 then UInt8.ofNat (48 + n) else UInt8.ofNat (87 + n)
/-- The place among the digits; 16: there is none. -/
def hexv (c : UInt8) : Nat := if 48 ≤ c.toNat ∧ c.toNat ≤ 57 then c.toNat - 48 else if 97 ≤ c.toNat ∧ c.toNat ≤ 102 then c.toNat - 87 else 16
theorem hexd_nat {n : Nat} (h : n < 16) : (hexd n).toNat = if n < 10 then 48 + n else 87 + n := by
  unfold hexd
  split <;> (rw [UInt8.toNat_ofNat']; omega)
theorem hexv_hexd {n : Nat} (h : n < 16) : hexv (hexd n) = n := by
  have := hexd_nat h
  unfold hexv
  rw [this]
  split <;> split <;> first | omega | (split <;> omega)
theorem hexv_le (c : UInt8) : hexv c ≤ 16 := by unfold hexv; split; · omega
                                                split <;> omega
theorem hexd_hexv {c : UInt8} (h : hexv c < 16) : hexd (hexv c) = c := by
  apply UInt8.toNat_inj.1
  rw [hexd_nat h]
  revert h
  unfold hexv
  split
  · intro h; rw [if_pos (by omega)]; omega
  · split
    · intro h; rw [if_neg (by omega)]; omega
    · intro h; omega

def hexb : List UInt8 → List UInt8
  | [] => []
  | b :: r => hexd (b.toNat / 16) :: hexd (b.toNat % 16) :: hexb r
def hexP (d : List UInt8) : List UInt8 := if d = [] then [45] else hexb d

theorem hexb_snoc (b : UInt8) : ∀ d : List UInt8, hexb (d ++ [b]) = hexb d ++ [hexd (b.toNat / 16), hexd (b.toNat % 16)]
  | [] => rfl
  | x :: r => by simp [hexb, hexb_snoc b r]
theorem hexb_len : ∀ d : List UInt8, (hexb d).length = 2 * d.length
  | [] => rfl
  | x :: r => by simp [hexb, hexb_len r]; omega
theorem hexb_mem : ∀ (d : List UInt8), ∀ c ∈ hexb d, 48 ≤ c.toNat
  | [], c, h => by simp [hexb] at h
  | x :: r, c, h => by
    simp only [hexb, List.mem_cons] at h
    have hx : x.toNat < 256 := x.toNat_lt
    rcases h with rfl | rfl | h
    · rw [hexd_nat (by omega)]; split <;> omega
    · rw [hexd_nat (by omega)]; split <;> omega
    · exact hexb_mem r c h
theorem hexP_free (d : List UInt8) {c : UInt8} (h : c.toNat < 45) : c ∉ hexP d := by
  unfold hexP
  split
  · intro hc; obtain rfl := List.mem_singleton.1 hc; simp at h
  · intro hc; have := hexb_mem d c hc; omega

/-- The byte that two digits are (as script reads: whatever it finds, up to a byte). -/
def hx2 (a b : UInt8) : UInt8 := UInt8.ofNat (16 * hexv a + hexv b)
theorem hx2_hexd {b : UInt8} : hx2 (hexd (b.toNat / 16)) (hexd (b.toNat % 16)) = b := by
  have hb : b.toNat < 256 := b.toNat_lt
  unfold hx2
  rw [hexv_hexd (by omega), hexv_hexd (by omega), show 16 * (b.toNat / 16) + b.toNat % 16 = b.toNat by omega]
  exact UInt8.ofNat_toNat
theorem hexd_hx2 {a b : UInt8} (ha : hexv a < 16) (hb : hexv b < 16) : hexd ((hx2 a b).toNat / 16) = a ∧ hexd ((hx2 a b).toNat % 16) = b := by
  have e : (hx2 a b).toNat = 16 * hexv a + hexv b := by unfold hx2; rw [UInt8.toNat_ofNat']; omega
  rw [e, show (16 * hexv a + hexv b) / 16 = hexv a by omega, show (16 * hexv a + hexv b) % 16 = hexv b by omega]
  exact ⟨hexd_hexv ha, hexd_hexv hb⟩
end Go.Proofs.YtfjjikabinelgaaDoor.Sc
namespace Go.Proofs.YtfjjikabinelgaaDoor.Sc
open Go.Lib

/-! ### paths -/

def okByte (c : UInt8) : Bool := decide (33 ≤ c.toNat) && decide (c.toNat ≤ 126) && decide (c.toNat ≠ 47)
def nameP (s : List UInt8) : Bool := decide (1 ≤ s.length) && decide (s.length ≤ 32) && decide (s ≠ [46]) && decide (s ≠ [46, 46]) && s.all okByte
/-- A path's names; none of the empty path. -/
def names (p : List UInt8) : List (List UInt8) := if p = [] then [] else spl 47 p
def checkN (p : List UInt8) : Int :=
  if 128 < p.length then 5
  else if names p = [] then 6
  else if (names p).all nameP = false then 6
  else if 8 < (names p).length then 5
  else 0

theorem mem_joinc (c : UInt8) {d : UInt8} : ∀ xs : List (List UInt8), d ∈ joinc c xs → d = c ∨ ∃ x ∈ xs, d ∈ x
  | [], h => by simp [joinc] at h
  | [x], h => Or.inr ⟨x, by simp, h⟩
  | x :: y :: r, h => by
    rw [joinc_cons c x (by simp), List.mem_append] at h
    rcases h with h | h
    · exact Or.inr ⟨x, by simp, h⟩
    · rcases List.mem_cons.1 h with h | h
      · exact Or.inl h
      · rcases mem_joinc c (y :: r) h with h | ⟨z, hz, h⟩
        · exact Or.inl h
        · exact Or.inr ⟨z, by simp [hz], h⟩

/-- A path's bytes are above the blank. -/
theorem checkN_free {p : List UInt8} (h : checkN p = 0) {c : UInt8} (hc : c.toNat < 33) : c ∉ p := by
  intro hm
  unfold checkN at h
  split at h; · omega
  split at h; · omega
  split at h; · omega
  next h1 _ h3 =>
  have hp : p ≠ [] := fun e => by rw [e] at hm; simp at hm
  have hn : names p = spl 47 p := if_neg hp
  have hall : (spl 47 p).all nameP = true := by rw [← hn]; simpa using h3
  have hj := joinc_spl 47 p
  rw [← hj] at hm
  rcases mem_joinc 47 _ hm with h0 | ⟨x, hx, hm⟩
  · subst h0; simp at hc
  · have := List.all_eq_true.1 hall x hx
    simp only [nameP, Bool.and_eq_true] at this
    have := List.all_eq_true.1 this.2 c hm
    simp only [okByte, Bool.and_eq_true, decide_eq_true_eq] at this
    omega

/-! ### a step's text -/

def word (k : Nat) : List UInt8 :=
  if k = 0 then [116, 105, 99, 107]
  else if k = 1 then [99, 111, 109, 101, 115]
  else if k = 2 then [108, 111, 115, 101, 115]
  else if k = 3 then [100, 111, 117, 98, 108, 101, 115]
  else if k = 4 then [115, 112, 111, 105, 108, 115]
  else if k = 5 then [105, 110, 106, 101, 99, 116, 115]
  else if k = 6 then [99, 114, 97, 115, 104]
  else if k = 7 then [102, 97, 105, 108, 115]
  else if k = 8 then [102, 97, 117, 108, 116, 115]
  else if k = 9 then [99, 104, 97, 110, 103, 101, 115]
  else []

def sided (k : Nat) : Bool := decide (k = 5) || decide (k = 6) || decide (k = 7) || decide (k = 8)
def hasN (k : Nat) : Bool := decide (k ≠ 5) && decide (k ≠ 9)
def hasD (k : Nat) : Bool := decide (k = 4) || decide (k = 5) || decide (k = 6) || decide (k = 9)

def fSide (k v : Nat) : List (List UInt8) := if sided k then [decDigits v] else []
def fN (k : Nat) (v : Int) : List (List UInt8) := if hasN k then [decDigits v.toNat] else []
def fDraw (k v : Nat) : List (List UInt8) := if k = 0 then [decDigits v] else []
def fDone (k : Nat) (b : Bool) : List (List UInt8) := if k = 7 then [if b then [49] else [48]] else []
def fPath (k : Nat) (p : List UInt8) : List (List UInt8) := if k = 9 then [p] else []
def fData (k : Nat) (d : List UInt8) : List (List UInt8) := if hasD k then [hexP d] else []
def fields (x : Stp) : List (List UInt8) :=
  word x.kind :: (fSide x.kind x.side ++ (fN x.kind x.n ++ (fDraw x.kind x.draw ++ (fDone x.kind x.done ++ (fPath x.kind x.path ++ fData x.kind x.data)))))

/-- Has the step a text? -/
def has (x : Stp) : Prop := x.kind ≤ 9 ∧ x.side ≤ 1 ∧ 0 ≤ x.n ∧ x.n ≤ 1099511627776 ∧ (x.kind = 9 → checkN x.path = 0)
instance (x : Stp) : Decidable (has x) := by unfold has; exact inferInstance
def textP (x : Stp) : List UInt8 := if has x then joinc 32 (fields x) else []

/-- What does not belong to the step's kind is as it is in no step. -/
structure Canon (x : Stp) : Prop where
  side : sided x.kind = false → x.side = 0
  n : hasN x.kind = false → x.n = 0
  draw : x.kind ≠ 0 → x.draw = 0
  done : x.kind ≠ 7 → x.done = false
  path : x.kind ≠ 9 → x.path = []
  data : hasD x.kind = false → x.data = []
  draw32 : x.draw < 4294967296

def trim (x : Stp) : Stp :=
  { kind := x.kind, side := if sided x.kind then x.side else 0, n := if hasN x.kind then x.n else 0, draw := if x.kind = 0 then x.draw else 0,
    done := if x.kind = 7 then x.done else false, path := if x.kind = 9 then x.path else [], data := if hasD x.kind then x.data else [] }

theorem trim_canon (x : Stp) (h : x.draw < 4294967296) : Canon (trim x) := by
  refine ⟨?_, ?_, ?_, ?_, ?_, ?_, ?_⟩ <;> simp only [trim]
  · intro h; rw [h]; rfl
  · intro h; rw [h]; rfl
  · intro h; rw [if_neg h]
  · intro h; rw [if_neg h]
  · intro h; rw [if_neg h]
  · intro h; rw [h]; rfl
  · split <;> omega

theorem trim_fSide (k v : Nat) : fSide k (if sided k then v else 0) = fSide k v := by unfold fSide; split <;> rfl
theorem trim_fN (k : Nat) (v : Int) : fN k (if hasN k then v else 0) = fN k v := by unfold fN; split <;> rfl
theorem trim_fDraw (k v : Nat) : fDraw k (if k = 0 then v else 0) = fDraw k v := by unfold fDraw; split <;> rfl
theorem trim_fDone (k : Nat) (v : Bool) : fDone k (if k = 7 then v else false) = fDone k v := by unfold fDone; split <;> rfl
theorem trim_fPath (k : Nat) (v : List UInt8) : fPath k (if k = 9 then v else []) = fPath k v := by unfold fPath; split <;> rfl
theorem trim_fData (k : Nat) (v : List UInt8) : fData k (if hasD k then v else []) = fData k v := by unfold fData; split <;> rfl
theorem trim_fields (x : Stp) : fields (trim x) = fields x := by
  unfold fields trim
  simp only [trim_fSide, trim_fN, trim_fDraw, trim_fDone, trim_fPath, trim_fData]

theorem trim_has {x : Stp} (h : has x) : has (trim x) := by
  obtain ⟨h1, h2, h3, h4, h5⟩ := h
  refine ⟨h1, ?_, ?_, ?_, ?_⟩ <;> simp only [trim]
  · split <;> omega
  · split <;> omega
  · split <;> omega
  · intro h; rw [if_pos h]; exact h5 h

theorem word_ne {k : Nat} (h : k ≤ 9) : word k ≠ [] := by
  have : k = 0 ∨ k = 1 ∨ k = 2 ∨ k = 3 ∨ k = 4 ∨ k = 5 ∨ k = 6 ∨ k = 7 ∨ k = 8 ∨ k = 9 := by omega
  rcases this with rfl | rfl | rfl | rfl | rfl | rfl | rfl | rfl | rfl | rfl <;> decide
theorem word_free {k : Nat} (h : k ≤ 9) : (32 : UInt8) ∉ word k := by
  have : k = 0 ∨ k = 1 ∨ k = 2 ∨ k = 3 ∨ k = 4 ∨ k = 5 ∨ k = 6 ∨ k = 7 ∨ k = 8 ∨ k = 9 := by omega
  rcases this with rfl | rfl | rfl | rfl | rfl | rfl | rfl | rfl | rfl | rfl <;> decide

theorem joinc_ne (c : UInt8) {x : List UInt8} (r : List (List UInt8)) (h : x ≠ []) : joinc c (x :: r) ≠ [] := by
  cases r with
  | nil => exact h
  | cons y r => rw [joinc_cons c x (by simp)]; simp

theorem textP_ne {x : Stp} (h : has x) : textP x ≠ [] := by
  unfold textP
  rw [if_pos h]
  exact joinc_ne 32 _ (word_ne h.1)

theorem trim_text {x : Stp} (h : has x) : textP (trim x) = textP x := by
  unfold textP
  rw [if_pos h, if_pos (trim_has h), trim_fields]

theorem mem_if {c : Prop} [Decidable c] {α : Type} {x a : α} (h : x ∈ if c then [a] else []) : c ∧ x = a := by
  split at h
  · next hc => exact ⟨hc, List.mem_singleton.1 h⟩
  · simp at h

theorem fields_free {x : Stp} (h : has x) : ∀ f ∈ fields x, (32 : UInt8) ∉ f := by
  intro f hf
  unfold fields at hf
  simp only [List.mem_cons, List.mem_append] at hf
  rcases hf with rfl | hf | hf | hf | hf | hf | hf
  · exact word_free h.1
  · obtain ⟨_, rfl⟩ := mem_if hf; exact dec_free _ (by decide)
  · obtain ⟨_, rfl⟩ := mem_if hf; exact dec_free _ (by decide)
  · obtain ⟨_, rfl⟩ := mem_if hf; exact dec_free _ (by decide)
  · obtain ⟨_, rfl⟩ := mem_if hf; split <;> decide
  · obtain ⟨hk, rfl⟩ := mem_if hf; exact checkN_free (h.2.2.2.2 hk) (by decide)
  · obtain ⟨_, rfl⟩ := mem_if hf; exact hexP_free _ (by decide)

theorem spl_text {x : Stp} (h : has x) : spl 32 (textP x) = fields x := by
  unfold textP
  rw [if_pos h]
  exact spl_joinc 32 _ (by unfold fields; simp) (fields_free h)

/-! ### a line's parts, as script reads them -/

def kindOf (w : List UInt8) : Option Nat :=
  if w = word 0 then some 0 else if w = word 1 then some 1 else if w = word 2 then some 2 else if w = word 3 then some 3 else if w = word 4 then some 4
  else if w = word 5 then some 5 else if w = word 6 then some 6 else if w = word 7 then some 7 else if w = word 8 then some 8 else if w = word 9 then some 9 else none

theorem kindOf_word {k : Nat} (h : k ≤ 9) : kindOf (word k) = some k := by
  have : k = 0 ∨ k = 1 ∨ k = 2 ∨ k = 3 ∨ k = 4 ∨ k = 5 ∨ k = 6 ∨ k = 7 ∨ k = 8 ∨ k = 9 := by omega
  rcases this with rfl | rfl | rfl | rfl | rfl | rfl | rfl | rfl | rfl | rfl <;> decide
theorem word_kindOf {w : List UInt8} {k : Nat} (h : kindOf w = some k) : w = word k ∧ k ≤ 9 := by
  unfold kindOf at h
  repeat (split at h; · next hw => obtain rfl := Option.some.inj h; exact ⟨hw, by omega⟩)
  cases h

/-- What is left of a line, and whether it is spoilt. -/
abbrev St := List (List UInt8) × Bool
def nextP (p : St) : List UInt8 × St :=
  match p.1 with
  | [] => ([], ([], true))
  | s :: r => (s, (r, p.2))

def numV (B : Nat) (s : List UInt8) : Nat :=
  match parseUintB B s with
  | .ok u => u
  | .range => 2 ^ B - 1
  | _ => 0
def numBad (B : Nat) (s : List UInt8) : Bool :=
  match parseUintB B s with
  | .ok u => !decide (decDigits u = s)
  | _ => true
def numberP (B : Nat) (p : St) : Nat × St := (numV B (nextP p).1, ((nextP p).2.1, (nextP p).2.2 || numBad B (nextP p).1))

/-- The bytes that pairs of digits are; f: a digit's place. -/
def unhexW (f : UInt8 → Nat) : List UInt8 → List UInt8
  | a :: b :: r => UInt8.ofNat (16 * f a + f b) :: unhexW f r
  | _ => []
/-- A digit's place as script takes it (-1, cut to four bits, of none), and as the document's answer does. -/
def hexm (c : UInt8) : Nat := if hexv c = 16 then 15 else hexv c
def hexz (c : UInt8) : Nat := if hexv c = 16 then 0 else hexv c
def unbad : List UInt8 → Bool
  | a :: b :: r => decide (hexv a = 16) || decide (hexv b = 16) || unbad r
  | _ => false
def bytesP (p : St) : List UInt8 × St :=
  if (nextP p).1 = [45] then ([], (nextP p).2)
  else (unhexW hexm (nextP p).1, ((nextP p).2.1, ((nextP p).2.2 || decide ((nextP p).1.length = 0) || decide ((nextP p).1.length % 2 ≠ 0)) || unbad (nextP p).1))

/-! the parts of a step, one behind the other -/
def stSide (k : Nat) (p : St) : Nat × St := if sided k then numberP 1 p else (0, p)
def stN (k : Nat) (p : St) : Nat × St := if hasN k then ((numberP 60 p).1, ((numberP 60 p).2.1, (numberP 60 p).2.2 || decide (1099511627776 < (numberP 60 p).1))) else (0, p)
def stDraw (k : Nat) (p : St) : Nat × St := if k = 0 then numberP 32 p else (0, p)
def stDone (k : Nat) (p : St) : Bool × St := if k = 7 then (decide ((numberP 1 p).1 = 1), (numberP 1 p).2) else (false, p)
def stPath (k : Nat) (p : St) : List UInt8 × St := if k = 9 then ((nextP p).1, ((nextP p).2.1, (nextP p).2.2 || decide (checkN (nextP p).1 ≠ 0))) else ([], p)
def stData (k : Nat) (p : St) : List UInt8 × St := if hasD k then bytesP p else ([], p)

theorem next_ok {p : St} {s : List UInt8} {q : St} (h : nextP p = (s, q)) (hq : q.2 = false) : p.2 = false ∧ p.1 = s :: q.1 := by
  obtain ⟨l, b⟩ := p
  cases l with
  | nil => simp only [nextP, Prod.mk.injEq] at h; obtain ⟨_, rfl⟩ := h; simp at hq
  | cons x r => simp only [nextP, Prod.mk.injEq] at h; obtain ⟨rfl, rfl⟩ := h; exact ⟨hq, rfl⟩
theorem next_ok' {p : St} (hq : (nextP p).2.2 = false) : p.2 = false ∧ p.1 = (nextP p).1 :: (nextP p).2.1 := next_ok (s := (nextP p).1) (q := (nextP p).2) rfl hq
theorem next_mk (s : List UInt8) (r : List (List UInt8)) : nextP (s :: r, false) = (s, (r, false)) := rfl

theorem numBad_ok {B : Nat} (hB : 2 ^ B - 1 ≤ 18446744073709551615) {s : List UInt8} (h : numBad B s = false) : s = decDigits (numV B s) ∧ numV B s < 2 ^ B := by
  unfold numBad at h
  unfold numV
  have h2 : 1 ≤ 2 ^ B := Nat.one_le_pow _ _ (by decide)
  cases hp : parseUintB B s with
  | ok u =>
    rw [hp] at h
    simp only [Bool.not_eq_eq_eq_not, Bool.not_false, decide_eq_true_eq] at h
    refine ⟨h.symm, ?_⟩
    simp only
    rcases Nat.lt_or_ge u (2 ^ B) with hu | hu
    · exact hu
    · exfalso
      have key : ∀ (l : List UInt8) (a v : Nat), a ≤ 2 ^ B - 1 → parseUintM (2 ^ B - 1) a l = .ok v → v ≤ 2 ^ B - 1 := by
        intro l
        induction l with
        | nil => intro a v ha hv; simp only [parseUintM, NumEnd.ok.injEq] at hv; omega
        | cons c r ih =>
          intro a v ha hv
          simp only [parseUintM] at hv
          split at hv
          · split at hv
            · cases hv
            · split at hv
              · cases hv
              · exact ih _ v (by omega) hv
          · cases hv
      unfold parseUintB at hp
      split at hp
      · cases hp
      · have := key s 0 u (by omega) hp
        omega
  | _ => rw [hp] at h; simp at h

theorem num_dec {B : Nat} (hB : 2 ^ B - 1 ≤ 18446744073709551615) {u : Nat} (hu : u < 2 ^ B) : numV B (decDigits u) = u ∧ numBad B (decDigits u) = false := by
  have h := parseB_dec hB hu
  unfold numV numBad
  rw [h]
  simp

theorem number_ok {B : Nat} (hB : 2 ^ B - 1 ≤ 18446744073709551615) {p : St} {v : Nat} {q : St} (h : numberP B p = (v, q)) (hq : q.2 = false) : p.2 = false ∧ p.1 = decDigits v :: q.1 ∧ v < 2 ^ B := by
  unfold numberP at h
  simp only [Prod.mk.injEq] at h
  obtain ⟨rfl, rfl⟩ := h
  simp only [Bool.or_eq_false_iff] at hq
  obtain ⟨h1, h2⟩ := next_ok' hq.1
  obtain ⟨h3, h4⟩ := numBad_ok hB hq.2
  exact ⟨h1, by rw [← h3]; exact h2, h4⟩
theorem number_mk {B : Nat} (hB : 2 ^ B - 1 ≤ 18446744073709551615) {v : Nat} (hv : v < 2 ^ B) (r : List (List UInt8)) : numberP B (decDigits v :: r, false) = (v, (r, false)) := by
  obtain ⟨h1, h2⟩ := num_dec hB hv
  simp only [numberP, next_mk, h1, h2]
  rfl

theorem side_ok {k : Nat} {p : St} {v : Nat} {q : St} (h : stSide k p = (v, q)) (hq : q.2 = false) : p.2 = false ∧ p.1 = fSide k v ++ q.1 ∧ v ≤ 1 ∧ (sided k = false → v = 0) := by
  unfold stSide at h
  unfold fSide
  split at h
  · next hs =>
    obtain ⟨h1, h2, h3⟩ := number_ok (by decide) h hq
    rw [if_pos hs]
    exact ⟨h1, h2, by omega, fun e => by rw [hs] at e; cases e⟩
  · next hs =>
    simp only [Prod.mk.injEq] at h
    obtain ⟨rfl, rfl⟩ := h
    rw [if_neg hs]
    exact ⟨hq, rfl, by omega, fun _ => rfl⟩
theorem side_mk {k v : Nat} (hv : v ≤ 1) (h0 : sided k = false → v = 0) (r : List (List UInt8)) : stSide k (fSide k v ++ r, false) = (v, (r, false)) := by
  unfold stSide fSide
  split
  · exact number_mk (by decide) (by omega) r
  · next hs => rw [h0 (by simpa using hs)]; rfl

theorem n_ok {k : Nat} {p : St} {v : Nat} {q : St} (h : stN k p = (v, q)) (hq : q.2 = false) : p.2 = false ∧ p.1 = fN k v ++ q.1 ∧ v ≤ 1099511627776 ∧ (hasN k = false → v = 0) := by
  unfold stN at h
  unfold fN
  split at h
  · next hs =>
    simp only [Prod.mk.injEq] at h
    obtain ⟨h1, rfl⟩ := h
    simp only [Bool.or_eq_false_iff, decide_eq_false_iff_not] at hq
    rw [h1] at hq
    obtain ⟨h1, h2, h3⟩ := number_ok (B := 60) (v := v) (q := (numberP 60 p).2) (by decide) (Prod.ext h1 rfl) hq.1
    rw [if_pos hs]
    exact ⟨h1, by simpa using h2, by omega, fun e => by rw [hs] at e; cases e⟩
  · next hs =>
    simp only [Prod.mk.injEq] at h
    obtain ⟨rfl, rfl⟩ := h
    rw [if_neg hs]
    exact ⟨hq, rfl, by omega, fun _ => rfl⟩
theorem n_mk {k v : Nat} (hv : v ≤ 1099511627776) (h0 : hasN k = false → v = 0) (r : List (List UInt8)) : stN k (fN k v ++ r, false) = (v, (r, false)) := by
  unfold stN fN
  split
  · have h := number_mk (B := 60) (by decide) (v := v) (by omega) r
    simp only [Int.toNat_natCast, List.cons_append, List.nil_append, h]
    simp; omega
  · next hs => rw [h0 (by simpa using hs)]; rfl

theorem draw_ok {k : Nat} {p : St} {v : Nat} {q : St} (h : stDraw k p = (v, q)) (hq : q.2 = false) : p.2 = false ∧ p.1 = fDraw k v ++ q.1 ∧ v < 4294967296 ∧ (k ≠ 0 → v = 0) := by
  unfold stDraw at h
  unfold fDraw
  split at h
  · next hs =>
    obtain ⟨h1, h2, h3⟩ := number_ok (by decide) h hq
    rw [if_pos hs]
    exact ⟨h1, h2, h3, fun e => absurd hs e⟩
  · next hs =>
    simp only [Prod.mk.injEq] at h
    obtain ⟨rfl, rfl⟩ := h
    rw [if_neg hs]
    exact ⟨hq, rfl, by omega, fun _ => rfl⟩
theorem draw_mk {k v : Nat} (hv : v < 4294967296) (h0 : k ≠ 0 → v = 0) (r : List (List UInt8)) : stDraw k (fDraw k v ++ r, false) = (v, (r, false)) := by
  unfold stDraw fDraw
  split
  · exact number_mk (B := 32) (by decide) hv r
  · next hs => rw [h0 hs]; rfl

theorem dec_bit {v : Nat} (h : v < 2) : decDigits v = if decide (v = 1) then [49] else [48] := by
  have : v = 0 ∨ v = 1 := by omega
  rcases this with rfl | rfl <;> rw [dec_small (by omega)] <;> rfl

theorem done_ok {k : Nat} {p : St} {v : Bool} {q : St} (h : stDone k p = (v, q)) (hq : q.2 = false) : p.2 = false ∧ p.1 = fDone k v ++ q.1 ∧ (k ≠ 7 → v = false) := by
  unfold stDone at h
  unfold fDone
  split at h
  · next hs =>
    simp only [Prod.mk.injEq] at h
    obtain ⟨rfl, rfl⟩ := h
    obtain ⟨h1, h2, h3⟩ := number_ok (B := 1) (p := p) (v := (numberP 1 p).1) (q := (numberP 1 p).2) (by decide) rfl hq
    rw [if_pos hs]
    exact ⟨h1, by rw [h2, dec_bit (by omega)]; rfl, fun e => absurd hs e⟩
  · next hs =>
    simp only [Prod.mk.injEq] at h
    obtain ⟨rfl, rfl⟩ := h
    rw [if_neg hs]
    exact ⟨hq, rfl, fun _ => rfl⟩
theorem done_mk {k : Nat} {v : Bool} (h0 : k ≠ 7 → v = false) (r : List (List UInt8)) : stDone k (fDone k v ++ r, false) = (v, (r, false)) := by
  unfold stDone fDone
  split
  · have e : ([if v = true then [49] else [48]] : List (List UInt8)) = [decDigits (if v then 1 else 0)] := by cases v <;> simp [dec_small]
    rw [e]
    have h := number_mk (B := 1) (by decide) (v := if v then 1 else 0) (by cases v <;> decide) r
    simp only [List.cons_append, List.nil_append, h]
    cases v <;> rfl
  · next hs => rw [h0 hs]; rfl

theorem path_ok {k : Nat} {p : St} {v : List UInt8} {q : St} (h : stPath k p = (v, q)) (hq : q.2 = false) : p.2 = false ∧ p.1 = fPath k v ++ q.1 ∧ (k = 9 → checkN v = 0) ∧ (k ≠ 9 → v = []) := by
  unfold stPath at h
  unfold fPath
  split at h
  · next hs =>
    simp only [Prod.mk.injEq] at h
    obtain ⟨rfl, rfl⟩ := h
    simp only [Bool.or_eq_false_iff, decide_eq_false_iff_not, Decidable.not_not] at hq
    obtain ⟨h1, h2⟩ := next_ok' hq.1
    rw [if_pos hs]
    exact ⟨h1, h2, fun _ => hq.2, fun e => absurd hs e⟩
  · next hs =>
    simp only [Prod.mk.injEq] at h
    obtain ⟨rfl, rfl⟩ := h
    rw [if_neg hs]
    exact ⟨hq, rfl, fun e => absurd e hs, fun _ => rfl⟩
theorem path_mk {k : Nat} {v : List UInt8} (hv : k = 9 → checkN v = 0) (h0 : k ≠ 9 → v = []) (r : List (List UInt8)) : stPath k (fPath k v ++ r, false) = (v, (r, false)) := by
  unfold stPath fPath
  split
  · next hs => simp [next_mk, hv hs]
  · next hs => rw [h0 hs]; rfl

theorem unhex_ok : ∀ (f : UInt8 → Nat), (∀ c, hexv c < 16 → f c = hexv c) → ∀ s : List UInt8, s.length % 2 = 0 → unbad s = false → hexb (unhexW f s) = s
  | _, _, [], _, _ => rfl
  | _, _, [_], h, _ => by simp at h
  | f, hf, a :: b :: r, h, hb => by
    simp only [unbad, Bool.or_eq_false_iff, decide_eq_false_iff_not] at hb
    have ha := hexv_le a
    have hb' := hexv_le b
    have h1 : hexv a < 16 := by omega
    have h2 : hexv b < 16 := by omega
    obtain ⟨e1, e2⟩ := hexd_hx2 h1 h2
    unfold hx2 at e1 e2
    simp only [unhexW, hexb, hf a h1, hf b h2, e1, e2]
    rw [unhex_ok f hf r (by simp at h; omega) hb.2]
theorem unhex_hexb (f : UInt8 → Nat) (hf : ∀ c, hexv c < 16 → f c = hexv c) : ∀ d : List UInt8, unhexW f (hexb d) = d ∧ unbad (hexb d) = false
  | [] => ⟨rfl, rfl⟩
  | b :: r => by
    obtain ⟨h1, h2⟩ := unhex_hexb f hf r
    have hb : b.toNat < 256 := b.toNat_lt
    have e1 := hexv_hexd (n := b.toNat / 16) (by omega)
    have e2 := hexv_hexd (n := b.toNat % 16) (by omega)
    have h := hx2_hexd (b := b)
    unfold hx2 at h
    rw [e1, e2] at h
    simp only [hexb, unhexW, unbad, hf (hexd (b.toNat / 16)) (by omega), hf (hexd (b.toNat % 16)) (by omega), h1, h2, e1, e2]
    refine ⟨by rw [h], ?_⟩
    simp; omega
theorem hexm_ok (c : UInt8) (h : hexv c < 16) : hexm c = hexv c := by unfold hexm; rw [if_neg (by omega)]
theorem hexz_ok (c : UInt8) (h : hexv c < 16) : hexz c = hexv c := by unfold hexz; rw [if_neg (by omega)]

theorem hexb_ne {d : List UInt8} (h : d ≠ []) : hexb d ≠ [45] ∧ hexb d ≠ [] := by
  cases d with
  | nil => exact absurd rfl h
  | cons x r => simp [hexb]

theorem unhex_dash {f : UInt8 → Nat} : unhexW f [45] = [] := rfl

theorem data_ok {k : Nat} {p : St} {v : List UInt8} {q : St} (h : stData k p = (v, q)) (hq : q.2 = false) : p.2 = false ∧ p.1 = fData k v ++ q.1 ∧ (hasD k = false → v = []) := by
  unfold stData at h
  unfold fData
  split at h
  · next hs =>
    rw [if_pos hs]
    unfold bytesP at h
    split at h
    · next hd =>
      simp only [Prod.mk.injEq] at h
      obtain ⟨rfl, rfl⟩ := h
      obtain ⟨h1, h2⟩ := next_ok' hq
      exact ⟨h1, by rw [h2, hd]; rfl, fun _ => rfl⟩
    · next hd =>
      simp only [Prod.mk.injEq] at h
      obtain ⟨rfl, rfl⟩ := h
      simp only [Bool.or_eq_false_iff, decide_eq_false_iff_not, Decidable.not_not] at hq
      obtain ⟨⟨⟨hq1, hq2⟩, hq3⟩, hq4⟩ := hq
      obtain ⟨h1, h2⟩ := next_ok' hq1
      have hu := unhex_ok hexm hexm_ok (nextP p).1 hq3 hq4
      refine ⟨h1, ?_, fun e => by rw [hs] at e; cases e⟩
      have hne : unhexW hexm (nextP p).1 ≠ [] := fun e => by
        rw [e] at hu
        exact hq2 (by rw [← hu]; rfl)
      unfold hexP
      rw [if_neg hne, hu]
      exact h2
  · next hs =>
    simp only [Prod.mk.injEq] at h
    obtain ⟨rfl, rfl⟩ := h
    rw [if_neg hs]
    exact ⟨hq, rfl, fun _ => rfl⟩
theorem data_mk {k : Nat} {v : List UInt8} (h0 : hasD k = false → v = []) (r : List (List UInt8)) : stData k (fData k v ++ r, false) = (v, (r, false)) := by
  unfold stData fData
  split
  · by_cases hv : v = []
    · subst hv; rfl
    · obtain ⟨e1, e2⟩ := hexb_ne hv
      obtain ⟨u1, u2⟩ := unhex_hexb hexm hexm_ok v
      have el := hexb_len v
      have e3 : (hexb v).length ≠ 0 := fun e => e2 (List.eq_nil_of_length_eq_zero e)
      have e0 : hexP v = hexb v := if_neg hv
      have hn : nextP ([hexP v] ++ r, false) = (hexb v, (r, false)) := by rw [e0]; rfl
      unfold bytesP
      rw [hn]
      simp only [if_neg e1, u1, u2]
      have e4 : (hexb v).length % 2 = 0 := by omega
      simp [e2, e4]
  · next hs => rw [h0 (by simpa using hs)]; rfl

/-- A line as script reads it. -/
def parseS (l : List UInt8) : Option Stp :=
  match kindOf (nextP (spl 32 l, false)).1 with
  | none => none
  | some k =>
    let p1 := (nextP (spl 32 l, false)).2
    let s := stSide k p1
    let n := stN k s.2
    let d := stDraw k n.2
    let e := stDone k d.2
    let p := stPath k e.2
    let b := stData k p.2
    if b.2.2 || !b.2.1.isEmpty then none else some ⟨k, s.1, n.1, d.1, e.1, p.1, b.1⟩

theorem parseS_ok {l : List UInt8} {x : Stp} (h : parseS l = some x) : has x ∧ Canon x ∧ textP x = l := by
  unfold parseS at h
  split at h
  · cases h
  · next k hk =>
    simp only at h
    split at h
    · cases h
    · next hb =>
      simp only [Bool.or_eq_true, not_or, Bool.not_eq_true, Bool.not_eq_false', List.isEmpty_iff] at hb
      obtain ⟨hb1, hb2⟩ := hb
      obtain rfl := Option.some.inj h
      obtain ⟨hw, hk9⟩ := word_kindOf hk
      obtain ⟨d1, d2, d3⟩ := data_ok (v := (stData k _).1) (q := (stData k _).2) rfl hb1
      obtain ⟨p1, p2, p3, p4⟩ := path_ok (v := (stPath k _).1) (q := (stPath k _).2) rfl d1
      obtain ⟨e1, e2, e3⟩ := done_ok (v := (stDone k _).1) (q := (stDone k _).2) rfl p1
      obtain ⟨r1, r2, r3, r4⟩ := draw_ok (v := (stDraw k _).1) (q := (stDraw k _).2) rfl e1
      obtain ⟨n1, n2, n3, n4⟩ := n_ok (v := (stN k _).1) (q := (stN k _).2) rfl r1
      obtain ⟨s1, s2, s3, s4⟩ := side_ok (v := (stSide k _).1) (q := (stSide k _).2) rfl n1
      obtain ⟨w1, w2⟩ := next_ok' s1
      rw [hb2, List.append_nil] at d2
      rw [d2] at p2; rw [p2] at e2; rw [e2] at r2; rw [r2] at n2; rw [n2] at s2; rw [s2, hw] at w2
      have key : ∀ x : Stp, has x → Canon x → spl 32 l = fields x → has x ∧ Canon x ∧ textP x = l := fun x h1 h2 h3 =>
        ⟨h1, h2, by unfold textP; rw [if_pos h1, ← h3, joinc_spl]⟩
      exact key _ ⟨hk9, s3, Int.natCast_nonneg _, Int.ofNat_le.2 n3, p3⟩ ⟨s4, fun h => congrArg Int.ofNat (n4 h), r4, e3, p4, d3, r3⟩ w2

theorem parseS_mk {x : Stp} (hh : has x) (hc : Canon x) : parseS (textP x) = some x := by
  obtain ⟨k, s, n, d, e, p, b⟩ := x
  have hs := spl_text hh
  obtain ⟨h1, h2, h3, h4, h5⟩ := hh
  obtain ⟨c1, c2, c3, c4, c5, c6, c7⟩ := hc
  simp only at h1 h2 h3 h4 h5 c1 c2 c3 c4 c5 c6 c7
  obtain ⟨m, rfl⟩ : ∃ m : Nat, n = m := ⟨n.toNat, by omega⟩
  unfold parseS
  rw [hs]
  simp only [fields, next_mk, kindOf_word h1]
  have e1 := side_mk h2 c1 (fN k ↑m ++ (fDraw k d ++ (fDone k e ++ (fPath k p ++ fData k b))))
  have e2 := n_mk (k := k) (v := m) (by omega) (fun h => by have := c2 h; omega) (fDraw k d ++ (fDone k e ++ (fPath k p ++ fData k b)))
  have e3 := draw_mk c7 c3 (fDone k e ++ (fPath k p ++ fData k b))
  have e4 := done_mk c4 (fPath k p ++ fData k b)
  have e5 := path_mk h5 c5 (fData k b)
  have e6 := data_mk c6 []
  rw [List.append_nil] at e6
  simp only [e1, e2, e3, e4, e5, e6]
  rfl

/-! ### a line as the document's answer reads it -/

def kindR (w : List UInt8) : Nat := (kindOf w).getD 255
def rSide (k : Nat) (p : List (List UInt8)) : Nat × List (List UInt8) := if sided k && decide (p ≠ []) then (min 9 (numR (p.headD [])), p.tail) else (0, p)
def rN (k : Nat) (p : List (List UInt8)) : Nat × List (List UInt8) := if hasN k && decide (p ≠ []) then (numR (p.headD []), p.tail) else (0, p)
def rPath (k : Nat) (p : List (List UInt8)) : List UInt8 × List (List UInt8) := if decide (k = 9) && decide (p ≠ []) then (p.headD [], p.tail) else ([], p)
def rDraw (k : Nat) (p : List (List UInt8)) : Nat := if decide (p ≠ []) && decide (k = 0) then numR (p.headD []) % 4294967296 else 0
def rDone (k : Nat) (p : List (List UInt8)) : Bool := decide (p ≠ []) && decide (k = 7) && decide (p.headD [] = [49])
def rData (k : Nat) (p : List (List UInt8)) : List UInt8 := if decide (p ≠ []) && hasD k then unhexW hexz (p.headD []) else []
def readR (l : List UInt8) : Stp :=
  let k := kindR ((spl 32 l).headD [])
  let s := rSide k (spl 32 l).tail
  let n := rN k s.2
  let p := rPath k n.2
  ⟨k, s.1, n.1, rDraw k p.2, rDone k p.2, p.1, rData k p.2⟩
def parseR (l : List UInt8) : Option Stp := if l = [] ∨ textP (readR l) ≠ l then none else some (readR l)

theorem rSide_no {k : Nat} (h : sided k = false) (p : List (List UInt8)) : (rSide k p).1 = 0 := by unfold rSide; rw [h]; rfl
theorem rN_no {k : Nat} (h : hasN k = false) (p : List (List UInt8)) : (rN k p).1 = 0 := by unfold rN; rw [h]; rfl
theorem rDraw_no {k : Nat} (h : k ≠ 0) (p : List (List UInt8)) : rDraw k p = 0 := by unfold rDraw; rw [if_neg (by simp [h])]
theorem rDone_no {k : Nat} (h : k ≠ 7) (p : List (List UInt8)) : rDone k p = false := by unfold rDone; simp [h]
theorem rPath_no {k : Nat} (h : k ≠ 9) (p : List (List UInt8)) : (rPath k p).1 = [] := by unfold rPath; rw [if_neg (by simp [h])]
theorem rData_no {k : Nat} (h : hasD k = false) (p : List (List UInt8)) : rData k p = [] := by unfold rData; rw [if_neg (by simp [h])]
theorem rDraw_lt (k : Nat) (p : List (List UInt8)) : rDraw k p < 4294967296 := by unfold rDraw; split <;> omega
theorem readR_canon (l : List UInt8) : Canon (readR l) :=
  ⟨fun h => rSide_no h _, fun h => congrArg Int.ofNat (rN_no h _), fun h => rDraw_no h _, fun h => rDone_no h _, fun h => rPath_no h _, fun h => rData_no h _, rDraw_lt _ _⟩

theorem side_r {k v : Nat} (hv : v ≤ 1) (h0 : sided k = false → v = 0) (r : List (List UInt8)) : rSide k (fSide k v ++ r) = (v, r) := by
  unfold rSide fSide
  cases hs : sided k
  · rw [h0 hs]; rfl
  · have := numR_dec (u := v) (by omega)
    simp [this]; omega
theorem n_r {k v : Nat} (hv : v ≤ 1099511627776) (h0 : hasN k = false → v = 0) (r : List (List UInt8)) : rN k (fN k v ++ r) = (v, r) := by
  unfold rN fN
  cases hs : hasN k
  · rw [h0 hs]; rfl
  · have := numR_dec (u := v) (by omega)
    simp [this]

theorem readR_mk {x : Stp} (hh : has x) (hc : Canon x) : readR (textP x) = x := by
  obtain ⟨k, s, n, d, e, p, b⟩ := x
  have hs := spl_text hh
  obtain ⟨h1, h2, h3, h4, h5⟩ := hh
  obtain ⟨c1, c2, c3, c4, c5, c6, c7⟩ := hc
  simp only at h1 h2 h3 h4 h5 c1 c2 c3 c4 c5 c6 c7
  obtain ⟨m, rfl⟩ : ∃ m : Nat, n = m := ⟨n.toNat, by omega⟩
  unfold readR
  rw [hs]
  simp only [fields, List.headD_cons, List.tail_cons]
  have ek : kindR (word k) = k := by unfold kindR; rw [kindOf_word h1]; rfl
  rw [ek, side_r h2 c1]
  simp only
  rw [n_r (by omega) (fun h => by have := c2 h; omega)]
  simp only
  have ed := numR_dec (u := d) (by omega)
  by_cases k0 : k = 0
  · subst k0
    have := c4 (by decide); subst this
    have := c5 (by decide); subst this
    have := c6 (by decide); subst this
    have : d % 4294967296 = d := Nat.mod_eq_of_lt c7
    simp [fDraw, fDone, fPath, fData, rPath, rDraw, rDone, rData, hasD, ed, this]
  have := c3 k0; subst this
  by_cases k7 : k = 7
  · subst k7
    have := c5 (by decide); subst this
    have := c6 (by decide); subst this
    cases e <;> simp [fDraw, fDone, fPath, fData, rPath, rDraw, rDone, rData, hasD]
  have := c4 k7; subst this
  have eu : unhexW hexz (hexP b) = b := by
    unfold hexP
    split
    · next h => subst h; rfl
    · exact (unhex_hexb hexz hexz_ok b).1
  by_cases k9 : k = 9
  · subst k9
    simp [fDraw, fDone, fPath, fData, rPath, rDraw, rDone, rData, hasD, eu]
  have := c5 k9; subst this
  cases hd : hasD k
  · have := c6 hd; subst this
    simp [fDraw, fDone, fPath, fData, rPath, rDraw, rDone, rData, hd, k0, k7, k9]
  · simp [fDraw, fDone, fPath, fData, rPath, rDraw, rDone, rData, hd, k0, k7, k9, eu]

theorem textP_has {x : Stp} {l : List UInt8} (h : textP x = l) (hl : l ≠ []) : has x := by
  unfold textP at h
  split at h
  · next hh => exact hh
  · exact absurd h.symm hl

/-- What script reads is what the document's answer reads. -/
theorem parse_same (l : List UInt8) : parseS l = parseR l := by
  unfold parseR
  split
  · next h =>
    cases hp : parseS l with
    | none => rfl
    | some x =>
      exfalso
      obtain ⟨h1, h2, h3⟩ := parseS_ok hp
      rcases h with h | h
      · exact textP_ne h1 (h3.trans h)
      · exact h (by rw [← h3, readR_mk h1 h2])
  · next h =>
    simp only [ne_eq, not_or, Decidable.not_not] at h
    have h1 := textP_has h.2 h.1
    have := parseS_mk h1 (readR_canon l)
    rw [h.2] at this
    exact this

/-- A step that has a text is parsed as it was, but for what does not belong to its kind. -/
theorem back (x : Stp) (hd : x.draw < 4294967296) (h : textP x ≠ []) : ∃ y, parseS (textP x) = some y ∧ y.kind = x.kind ∧ textP y = textP x := by
  have hh := textP_has rfl h
  refine ⟨trim x, ?_, rfl, trim_text hh⟩
  have := parseS_mk (trim_has hh) (trim_canon x hd)
  rwa [trim_text hh] at this

/-! ### lines -/

/-- The steps of lines, and the number of the line that is none (0: there is none); i: the lines ahead. -/
def linesP : Nat → List (List UInt8) → List Stp × Nat
  | _, [] => ([], 0)
  | i, l :: r =>
    if l = [] ∨ l.head? = some 35 then linesP (i + 1) r
    else match parseS l with
      | none => ([], i + 1)
      | some x => (x :: (linesP (i + 1) r).1, (linesP (i + 1) r).2)
end Go.Proofs.YtfjjikabinelgaaDoor.Sc
