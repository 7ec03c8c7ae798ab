/- Plain law: what the bytes of a script are as steps; a beginning of the bytes has, but for its last step, the first steps of all. Lists alone, no program. -/
namespace Go.Proofs.YtfjjikabinelgaaDoor.Sc

/-- A step of a script, as plain data. -/
structure Stp where
  kind : Nat
  side : Nat
  n : Int
  draw : Nat
  done : Bool
  path : List UInt8
  data : List UInt8

def Stp.nil : Stp := ⟨0, 0, 0, 0, false, [], []⟩

/-- A byte off; 0, if it is missing. -/
def one : List UInt8 → Nat × List UInt8
  | [] => (0, [])
  | c :: r => (c.toNat, r)

/-- How many bytes a text of at most m has. -/
def txtN (m : Nat) (b : List UInt8) : Nat := min ((one b).1 % (m + 1)) (one b).2.length
def txt (m : Nat) (b : List UInt8) : List UInt8 × List UInt8 := ((one b).2.take (txtN m b), (one b).2.drop (txtN m b))

/-- A step behind its first byte k. -/
def stepK (k : Nat) (b : List UInt8) : Stp × List UInt8 :=
  if k % 10 = 0 then (⟨0, 0, (((one b).1 % 65 : Nat) : Int), (one (one b).2).1, false, [], []⟩, (one (one b).2).2)
  else if k % 10 = 4 then (⟨4, 0, ((one b).1 : Int), 0, false, [], (txt 15 (one b).2).1⟩, (txt 15 (one b).2).2)
  else if k % 10 = 5 then (⟨5, k / 10 % 2, 0, 0, false, [], (txt 63 b).1⟩, (txt 63 b).2)
  else if k % 10 = 6 then (⟨6, k / 10 % 2, ((one b).1 : Int), 0, false, [], (txt 7 (one b).2).1⟩, (txt 7 (one b).2).2)
  else if k % 10 = 7 then (⟨7, k / 10 % 2, ((one b).1 : Int), 0, decide (k / 20 % 2 = 1), [], []⟩, (one b).2)
  else if k % 10 = 8 then (⟨8, k / 10 % 2, ((one b).1 : Int), 0, false, [], []⟩, (one b).2)
  else if k % 10 = 9 then (⟨9, 0, 0, 0, false, (txt 7 b).1, (txt 63 (txt 7 b).2).1⟩, (txt 63 (txt 7 b).2).2)
  else (⟨k % 10, 0, ((one b).1 : Int), 0, false, [], []⟩, (one b).2)

def step (b : List UInt8) : Stp × List UInt8 := stepK (one b).1 (one b).2

/-- At most f steps. -/
def decode : Nat → List UInt8 → List Stp
  | 0, _ => []
  | f + 1, b => if b = [] then [] else (step b).1 :: decode f (step b).2

theorem one_lt (b : List UInt8) : (one b).1 < 256 := by
  cases b with
  | nil => simp [one]
  | cons c r => exact c.toNat_lt

theorem one_len (b : List UInt8) : (one b).2.length ≤ b.length := by cases b <;> simp [one]
theorem one_len_lt {b : List UInt8} (h : b ≠ []) : (one b).2.length < b.length := by
  cases b with
  | nil => exact absurd rfl h
  | cons c r => simp [one]
theorem txt_len (m : Nat) (b : List UInt8) : (txt m b).2.length ≤ b.length := by
  have := one_len b
  simp only [txt, List.length_drop]; omega
theorem stepK_len (k : Nat) (b : List UInt8) : (stepK k b).2.length ≤ b.length := by
  have h1 := one_len b
  have h2 := one_len (one b).2
  have h3 := txt_len 15 (one b).2
  have h4 := txt_len 63 b
  have h5 := txt_len 7 (one b).2
  have h6 := txt_len 7 b
  have h7 := txt_len 63 (txt 7 b).2
  unfold stepK
  split; · simp only; omega
  split; · simp only; omega
  split; · simp only; omega
  split; · simp only; omega
  split; · simp only; omega
  split; · simp only; omega
  split; · simp only; omega
  simp only; omega
theorem step_len {b : List UInt8} (h : b ≠ []) : (step b).2.length < b.length := by
  have := one_len_lt h
  have := stepK_len (one b).1 (one b).2
  unfold step; omega

theorem one_app {p : List UInt8} (q : List UInt8) (h : p ≠ []) : one (p ++ q) = ((one p).1, (one p).2 ++ q) := by
  cases p with
  | nil => exact absurd rfl h
  | cons c r => rfl
theorem one_back {p : List UInt8} (h : (one p).2 ≠ []) : p ≠ [] := by
  rintro rfl; exact h rfl
theorem txt_back {m : Nat} {p : List UInt8} (h : (txt m p).2 ≠ []) : p ≠ [] := by
  rintro rfl; exact h (by simp [txt, one])
theorem txt_app {m : Nat} {p : List UInt8} (q : List UInt8) (h : (txt m p).2 ≠ []) : txt m (p ++ q) = ((txt m p).1, (txt m p).2 ++ q) := by
  have hp := txt_back h
  have hl : txtN m p < (one p).2.length := by
    rcases Nat.lt_or_ge (txtN m p) (one p).2.length with h1 | h1
    · exact h1
    · exact absurd (List.drop_eq_nil_of_le h1) h
  have hn : txtN m (p ++ q) = txtN m p := by
    unfold txtN at hl ⊢
    rw [one_app q hp]
    simp only [List.length_append]
    omega
  have ho := one_app q hp
  simp only [txt, hn, ho]
  rw [List.take_append_of_le_length (by omega), List.drop_append_of_le_length (by omega)]

theorem stepK_app (k : Nat) {p : List UInt8} (q : List UInt8) (h : (stepK k p).2 ≠ []) : stepK k (p ++ q) = ((stepK k p).1, (stepK k p).2 ++ q) := by
  unfold stepK at h ⊢
  by_cases h0 : k % 10 = 0
  · simp only [if_pos h0] at h ⊢
    have h1 := one_back h
    have h2 := one_back h1
    rw [one_app q h2]; simp only [one_app q h1]
  simp only [if_neg h0] at h ⊢
  by_cases h0 : k % 10 = 4
  · simp only [if_pos h0] at h ⊢
    have h1 := txt_back h
    have h2 := one_back h1
    rw [one_app q h2]; simp only [txt_app q h]
  simp only [if_neg h0] at h ⊢
  by_cases h0 : k % 10 = 5
  · simp only [if_pos h0] at h ⊢
    simp only [txt_app q h]
  simp only [if_neg h0] at h ⊢
  by_cases h0 : k % 10 = 6
  · simp only [if_pos h0] at h ⊢
    have h1 := txt_back h
    have h2 := one_back h1
    rw [one_app q h2]; simp only [txt_app q h]
  simp only [if_neg h0] at h ⊢
  by_cases h0 : k % 10 = 7
  · simp only [if_pos h0] at h ⊢
    simp only [one_app q (one_back h)]
  simp only [if_neg h0] at h ⊢
  by_cases h0 : k % 10 = 8
  · simp only [if_pos h0] at h ⊢
    simp only [one_app q (one_back h)]
  simp only [if_neg h0] at h ⊢
  by_cases h0 : k % 10 = 9
  · simp only [if_pos h0] at h ⊢
    have h1 := txt_back h
    rw [txt_app q h1]; simp only [txt_app q h]
  simp only [if_neg h0] at h ⊢
  simp only [one_app q (one_back h)]

theorem step_app {p : List UInt8} (q : List UInt8) (h : (step p).2 ≠ []) : step (p ++ q) = ((step p).1, (step p).2 ++ q) := by
  unfold step at h ⊢
  have hp : p ≠ [] := one_back fun e => h (by
    have := stepK_len (one p).1 (one p).2
    rw [e] at this ⊢
    exact List.eq_nil_of_length_eq_zero (by simpa using this))
  simp only [one_app q hp]
  exact stepK_app _ q h

theorem decode_le (f : Nat) : ∀ b : List UInt8, (decode f b).length ≤ b.length := by
  induction f with
  | zero => intro b; simp [decode]
  | succ f ih =>
    intro b
    unfold decode
    split
    · simp
    · next h =>
      have := step_len h
      have := ih (step b).2
      simp only [List.length_cons]; omega

theorem decode_fuel (f : Nat) : ∀ b : List UInt8, (decode f b).length ≤ f := by
  induction f with
  | zero => intro b; simp [decode]
  | succ f ih =>
    intro b
    unfold decode
    split
    · simp
    · have := ih (step b).2
      simp only [List.length_cons]; omega

/-- The steps of a beginning of bytes are, but for the last one, the first ones of all. -/
theorem decode_begins (f : Nat) : ∀ p q : List UInt8, (decode f p).length ≤ (decode f (p ++ q)).length ∧ ∀ i, i + 1 < (decode f p).length → (decode f p)[i]? = (decode f (p ++ q))[i]? := by
  induction f with
  | zero => intro p q; exact ⟨by simp [decode], fun i hi => by simp [decode] at hi⟩
  | succ f ih =>
    intro p q
    by_cases hp : p = []
    · subst hp
      exact ⟨by simp [decode], fun i hi => by simp [decode] at hi⟩
    · have hpq : p ++ q ≠ [] := by simp [hp]
      by_cases hr : (step p).2 = []
      · have e : decode (f + 1) p = [(step p).1] := by
          unfold decode; rw [if_neg hp, hr]
          cases f <;> simp [decode]
        refine ⟨?_, fun i hi => by rw [e] at hi; simp at hi⟩
        rw [e]; unfold decode; rw [if_neg hpq]; simp
      · have hs := step_app q hr
        have e1 : decode (f + 1) p = (step p).1 :: decode f (step p).2 := by
          rw [decode, if_neg hp]
        have e2 : decode (f + 1) (p ++ q) = (step p).1 :: decode f ((step p).2 ++ q) := by
          rw [decode, if_neg hpq, hs]
        obtain ⟨i1, i2⟩ := ih (step p).2 q
        rw [e1, e2]
        refine ⟨by simpa using i1, fun i hi => ?_⟩
        cases i with
        | zero => rfl
        | succ i =>
          simp only [List.length_cons] at hi
          simpa using i2 i (by omega)
end Go.Proofs.YtfjjikabinelgaaDoor.Sc
