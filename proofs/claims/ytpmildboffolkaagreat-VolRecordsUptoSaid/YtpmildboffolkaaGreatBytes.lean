/-
  Records of entries as lists of bytes: how a number, a text, a list of entries is written and read back; no program in sight; the conditions stand in each theorem.
-/
set_option linter.unusedVariables false
set_option linter.unusedSimpArgs false
/-
  Records of entries as lists of bytes: how a number, a text, a list of entries is written, and read back; no program in sight; no condition.
-/
namespace Go.Proofs.YtpmildboffolkaaGreat.VRec

abbrev Bs := List UInt8

/-- A number in groups of seven bits, the lowest first. -/
def venc (n : Nat) : Bs :=
  if h : n < 128 then [UInt8.ofNat n] else UInt8.ofNat (n % 128 + 128) :: venc (n / 128)
termination_by n
decreasing_by omega

theorem venc_small {n : Nat} (h : n < 128) : venc n = [UInt8.ofNat n] := by
  rw [venc, dif_pos h]
theorem venc_big {n : Nat} (h : ¬ n < 128) : venc n = UInt8.ofNat (n % 128 + 128) :: venc (n / 128) := by
  rw [venc, dif_neg h]

theorem venc_len_aux : ∀ (k n : Nat), n < 128 ^ k → 0 < k → (venc n).length ≤ k := by
  intro k
  induction k with
  | zero => intro n _ h; omega
  | succ k ih =>
    intro n hn _
    by_cases h : n < 128
    · rw [venc_small h]; simp
    · rw [venc_big h]
      have hk : 0 < k := by
        rcases Nat.eq_zero_or_pos k with rfl | h'
        · simp at hn; omega
        · exact h'
      have h2 : n / 128 < 128 ^ k := by
        rw [Nat.div_lt_iff_lt_mul (by decide)]
        rw [Nat.pow_succ] at hn
        exact hn
      have := ih (n / 128) h2 hk
      simp; omega
theorem venc_len {n : Nat} (h : n < 18446744073709551616) : (venc n).length ≤ 10 :=
  venc_len_aux 10 n (Nat.lt_of_lt_of_le h (by decide)) (by decide)
theorem venc_pos (n : Nat) : 0 < (venc n).length := by
  by_cases h : n < 128
  · rw [venc_small h]; simp
  · rw [venc_big h]; simp

/-- A text: how many bytes there are, and these. -/
def text (s : Bs) : Bs := venc s.length ++ s
theorem text_len {s : Bs} (h : s.length < 18446744073709551616) : (text s).length ≤ s.length + 10 := by
  unfold text
  rw [List.length_append]
  have := venc_len h
  omega

structure Ent where
  key : Bs
  value : Bs
  gone : Bool
deriving DecidableEq

def oneOf (x : Ent) : Bs := if x.gone then 2 :: text x.key else 1 :: (text x.key ++ text x.value)
def recOf (l : List Ent) : Bs := (l.map oneOf).flatten
theorem recOf_nil : recOf [] = [] := rfl
theorem recOf_snoc (l : List Ent) (x : Ent) : recOf (l ++ [x]) = recOf l ++ oneOf x := by
  simp [recOf]
/-- What an entry's bytes are at most. -/
def mostOf (x : Ent) : Nat := x.key.length + x.value.length + 21
def sumOf (l : List Ent) : Nat := (l.map mostOf).sum
theorem sumOf_snoc (l : List Ent) (x : Ent) : sumOf (l ++ [x]) = sumOf l + mostOf x := by
  simp [sumOf]
theorem oneOf_len {x : Ent} (h1 : x.key.length < 18446744073709551616) (h2 : x.value.length < 18446744073709551616) : (oneOf x).length ≤ mostOf x := by
  unfold oneOf mostOf
  have a := text_len h1
  have b := text_len h2
  split <;> simp <;> omega
theorem recOf_len : ∀ (l : List Ent), (∀ x ∈ l, x.key.length < 18446744073709551616 ∧ x.value.length < 18446744073709551616) → (recOf l).length ≤ sumOf l
  | [], _ => by simp [recOf, sumOf]
  | x :: l, h => by
    have a := recOf_len l (fun y hy => h y (List.mem_cons_of_mem _ hy))
    have b := oneOf_len (h x List.mem_cons_self).1 (h x List.mem_cons_self).2
    simp only [recOf, sumOf, List.map_cons, List.flatten_cons, List.sum_cons, List.length_append] at a ⊢
    omega

/-! ## Reading -/
/-- The number with which bytes begin (the i-th group stands first), and how many bytes it has. -/
def rv : Nat → Bs → Option (Nat × Nat)
  | _, [] => none
  | i, c :: r =>
    if i = 9 ∧ c ≠ 1 then none
    else if c.toNat < 128 then (if c = 0 ∧ 0 < i then none else some (c.toNat, 1))
    else (rv (i + 1) r).map fun p => (c.toNat - 128 + 128 * p.1, p.2 + 1)

theorem rv_size : ∀ (s : Bs) (i : Nat) {n k : Nat}, rv i s = some (n, k) → 0 < k ∧ k ≤ s.length
  | [], i, n, k, h => by simp [rv] at h
  | c :: r, i, n, k, h => by
    unfold rv at h
    split at h
    · cases h
    · split at h
      · split at h
        · cases h
        · cases h; simp
      · cases hr : rv (i + 1) r with
        | none => rw [hr] at h; simp at h
        | some p =>
          rw [hr] at h
          simp only [Option.map_some, Option.some.injEq, Prod.mk.injEq] at h
          have := rv_size r (i + 1) (n := p.1) (k := p.2) hr
          simp; omega

/-- The text with which bytes begin, and what is behind it. -/
def txt (s : Bs) : Option (Bs × Bs) :=
  match rv 0 s with
  | none => none
  | some (n, k) => if s.length - k < n then none else some ((s.drop k).take n, (s.drop k).drop n)

theorem txt_len {s a r : Bs} (h : txt s = some (a, r)) : r.length < s.length ∧ a.length + r.length < s.length := by
  unfold txt at h
  cases hr : rv 0 s with
  | none => rw [hr] at h; cases h
  | some p =>
    obtain ⟨n, k⟩ := p
    rw [hr] at h
    simp only at h
    split at h
    · cases h
    · simp only [Option.some.injEq, Prod.mk.injEq] at h
      obtain ⟨rfl, rfl⟩ := h
      have := rv_size s 0 hr
      simp; omega

/-- An entry with which bytes begin, and what is behind it. -/
def oneIn : Bs → Option (Ent × Bs)
  | [] => none
  | c :: r =>
    if c = 1 then
      match txt r with
      | none => none
      | some (k, r1) => match txt r1 with
        | none => none
        | some (v, r2) => some (⟨k, v, false⟩, r2)
    else if c = 2 then
      match txt r with
      | none => none
      | some (k, r1) => some (⟨k, [], true⟩, r1)
    else none

theorem oneIn_cons (c : UInt8) (r : Bs) : oneIn (c :: r) =
    if c = 1 then
      match txt r with
      | none => none
      | some (k, r1) => match txt r1 with
        | none => none
        | some (v, r2) => some (⟨k, v, false⟩, r2)
    else if c = 2 then
      match txt r with
      | none => none
      | some (k, r1) => some (⟨k, [], true⟩, r1)
    else none := rfl

theorem oneIn_len {s r : Bs} {x : Ent} (h : oneIn s = some (x, r)) : r.length < s.length ∧ x.key.length + x.value.length + r.length < s.length := by
  cases s with
  | nil => simp [oneIn] at h
  | cons c s =>
    rw [oneIn_cons] at h
    split at h
    · cases h1 : txt s with
      | none => rw [h1] at h; cases h
      | some p =>
        obtain ⟨k, r1⟩ := p
        rw [h1] at h
        simp only at h
        cases h2 : txt r1 with
        | none => rw [h2] at h; cases h
        | some q =>
          obtain ⟨v, r2⟩ := q
          rw [h2] at h
          simp only [Option.some.injEq, Prod.mk.injEq] at h
          obtain ⟨rfl, rfl⟩ := h
          have a := txt_len h1
          have b := txt_len h2
          simp; omega
    · split at h
      · cases h1 : txt s with
        | none => rw [h1] at h; cases h
        | some p =>
          obtain ⟨k, r1⟩ := p
          rw [h1] at h
          simp only [Option.some.injEq, Prod.mk.injEq] at h
          obtain ⟨rfl, rfl⟩ := h
          have a := txt_len h1
          simp; omega
      · cases h

/-- Is a key not above the last one of some entries? -/
def low (le : Bs → Bs → Bool) (acc : List Ent) (k : Bs) : Bool :=
  match acc.getLast? with
  | none => false
  | some y => le k y.key

/-- The entries that bytes are, behind some; fuel: as many steps at most. -/
def entsF (le : Bs → Bs → Bool) : Nat → List Ent → Bs → Option (List Ent)
  | _, acc, [] => some acc
  | 0, _, _ :: _ => none
  | f + 1, acc, c :: r =>
    match oneIn (c :: r) with
    | none => none
    | some (x, rest) => if low le acc x.key then none else entsF le f (acc ++ [x]) rest
def ents (le : Bs → Bs → Bool) (acc : List Ent) (s : Bs) : Option (List Ent) := entsF le s.length acc s

theorem entsF_more (le : Bs → Bs → Bool) : ∀ (f g : Nat) (acc : List Ent) (s : Bs), s.length ≤ f → s.length ≤ g → entsF le f acc s = entsF le g acc s := by
  intro f
  induction f with
  | zero =>
    intro g acc s hf hg
    cases s with
    | nil => simp [entsF]
    | cons c r => simp at hf
  | succ f ih =>
    intro g acc s hf hg
    cases s with
    | nil => cases g <;> simp [entsF]
    | cons c r =>
      cases g with
      | zero => simp at hg
      | succ g =>
        show (match oneIn (c :: r) with | none => none | some (x, rest) => if low le acc x.key then none else entsF le f (acc ++ [x]) rest) = (match oneIn (c :: r) with | none => none | some (x, rest) => if low le acc x.key then none else entsF le g (acc ++ [x]) rest)
        cases h : oneIn (c :: r) with
        | none => rfl
        | some p =>
          obtain ⟨x, rest⟩ := p
          simp only
          have hl := (oneIn_len h).1
          rw [ih g (acc ++ [x]) rest (by simp at hl hf; omega) (by simp at hl hg; omega)]

theorem ents_nil (le : Bs → Bs → Bool) (acc : List Ent) : ents le acc [] = some acc := by simp [ents, entsF]
theorem ents_none (le : Bs → Bs → Bool) (acc : List Ent) {s : Bs} (hs : s ≠ []) (h : oneIn s = none) : ents le acc s = none := by
  cases s with
  | nil => exact absurd rfl hs
  | cons c r =>
    show (match oneIn (c :: r) with | none => none | some (x, rest) => if low le acc x.key then none else entsF le r.length (acc ++ [x]) rest) = none
    rw [h]
theorem ents_low (le : Bs → Bs → Bool) (acc : List Ent) {s rest : Bs} {x : Ent} (h : oneIn s = some (x, rest)) (hl : low le acc x.key = true) : ents le acc s = none := by
  cases s with
  | nil => simp [oneIn] at h
  | cons c r =>
    show (match oneIn (c :: r) with | none => none | some (x, rest) => if low le acc x.key then none else entsF le r.length (acc ++ [x]) rest) = none
    rw [h]
    simp [hl]
theorem ents_step (le : Bs → Bs → Bool) (acc : List Ent) {s rest : Bs} {x : Ent} (h : oneIn s = some (x, rest)) (hl : low le acc x.key = false) : ents le acc s = ents le (acc ++ [x]) rest := by
  cases s with
  | nil => simp [oneIn] at h
  | cons c r =>
    show (match oneIn (c :: r) with | none => none | some (x, rest) => if low le acc x.key then none else entsF le r.length (acc ++ [x]) rest) = _
    rw [h]
    simp only [hl, Bool.false_eq_true, if_false]
    have hlen := (oneIn_len h).1
    exact entsF_more le _ _ _ _ (by simp at hlen; omega) (Nat.le_refl _)

theorem oneIn_has {r k r1 v r2 : Bs} (h1 : txt r = some (k, r1)) (h2 : txt r1 = some (v, r2)) : oneIn (1 :: r) = some (⟨k, v, false⟩, r2) := by
  simp [oneIn, h1, h2]
theorem oneIn_gone {r k r1 : Bs} (h1 : txt r = some (k, r1)) : oneIn (2 :: r) = some (⟨k, [], true⟩, r1) := by
  simp [oneIn, h1]
theorem oneIn_no1 {c : UInt8} {r : Bs} (h1 : txt r = none) : oneIn (c :: r) = none := by
  rw [oneIn_cons, h1]
  split
  · rfl
  · split <;> rfl
theorem oneIn_no2 {r k r1 : Bs} (h1 : txt r = some (k, r1)) (h2 : txt r1 = none) : oneIn (1 :: r) = none := by
  simp [oneIn, h1, h2]
theorem oneIn_kind {c : UInt8} {r : Bs} (h1 : c ≠ 1) (h2 : c ≠ 2) : oneIn (c :: r) = none := by
  simp [oneIn, h1, h2]

end Go.Proofs.YtpmildboffolkaaGreat.VRec
