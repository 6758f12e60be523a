/- Lists of digits and the numbers that they are. Plain Lean. -/
namespace Go.Proofs.YtgihapdlliidgaaDoor
set_option linter.unusedVariables false

/-- the number of a list of digits to the base B, the least first -/
def lv (B : Nat) : List Nat → Nat
  | [] => 0
  | x :: l => x + B * lv B l

theorem lv_nil (B : Nat) : lv B [] = 0 := rfl
theorem lv_cons (B x : Nat) (l : List Nat) : lv B (x :: l) = x + B * lv B l := rfl

theorem lv_append (B : Nat) (a b : List Nat) : lv B (a ++ b) = lv B a + B ^ a.length * lv B b := by
  induction a with
  | nil => simp [lv]
  | cons x a ih =>
    simp only [List.cons_append, lv_cons, ih, List.length_cons, Nat.pow_succ]
    rw [Nat.mul_add, Nat.add_assoc, ← Nat.mul_assoc, Nat.mul_comm B (B ^ a.length)]

theorem lv_lt (B : Nat) (l : List Nat) (h : ∀ x ∈ l, x < B) : lv B l < B ^ l.length := by
  induction l with
  | nil => simp [lv]
  | cons x l ih =>
    have hx := h x (by simp)
    have hl := ih (fun y hy => h y (by simp [hy]))
    simp only [lv_cons, List.length_cons, Nat.pow_succ]
    have : B * lv B l + B ≤ B ^ l.length * B := by
      rw [Nat.mul_comm (B ^ l.length) B, ← Nat.mul_succ]
      exact Nat.mul_le_mul_left B hl
    omega

theorem lv_zeros (B n : Nat) : lv B (List.replicate n 0) = 0 := by
  induction n with
  | zero => rfl
  | succ n ih => simp [List.replicate_succ, lv_cons, ih]

theorem lv_all_zero (B : Nat) (l : List Nat) (h : ∀ x ∈ l, x = 0) : lv B l = 0 := by
  induction l with
  | nil => rfl
  | cons x l ih => simp [lv_cons, h x (by simp), ih (fun y hy => h y (by simp [hy]))]

theorem lv_take_drop (B : Nat) (l : List Nat) (k : Nat) (hk : k ≤ l.length) : lv B l = lv B (l.take k) + B ^ k * lv B (l.drop k) := by
  have := lv_append B (l.take k) (l.drop k)
  rw [List.take_append_drop] at this
  rw [this, List.length_take, Nat.min_eq_left hk]

theorem lv_take_succ (B : Nat) (l : List Nat) (k : Nat) (hk : k < l.length) : lv B (l.take (k + 1)) = lv B (l.take k) + B ^ k * l.getD k 0 := by
  have e : l.take (k + 1) = l.take k ++ [l.getD k 0] := by
    rw [List.take_succ_eq_append_getElem hk]; simp [List.getD_eq_getElem?_getD, List.getElem?_eq_getElem hk]
  rw [e, lv_append, List.length_take, Nat.min_eq_left (Nat.le_of_lt hk)]
  simp [lv]

theorem lv_drop_succ (B : Nat) (l : List Nat) (k : Nat) (hk : k < l.length) : lv B (l.drop k) = l.getD k 0 + B * lv B (l.drop (k + 1)) := by
  have e : l.drop k = l.getD k 0 :: l.drop (k + 1) := by
    rw [List.drop_eq_getElem_cons hk]; simp [List.getD_eq_getElem?_getD, List.getElem?_eq_getElem hk]
  rw [e, lv_cons]

/-- no nought on top -/
def canon (l : List Nat) : Prop := ∀ h : l ≠ [], l.getLast h ≠ 0

theorem canon_nil : canon [] := fun h => absurd rfl h

theorem lv_ge (B : Nat) (l : List Nat) (hB : 0 < B) (h : canon l) (hl : l ≠ []) : B ^ (l.length - 1) ≤ lv B l := by
  have e : l.dropLast ++ [l.getLast hl] = l := List.dropLast_concat_getLast hl
  have h0 := h hl
  have : lv B l = lv B l.dropLast + B ^ (l.length - 1) * l.getLast hl := by
    have e2 := lv_append B l.dropLast [l.getLast hl]
    rw [e] at e2
    rw [e2]; simp [lv]
  rw [this]
  have h1 : B ^ (l.length - 1) * 1 ≤ B ^ (l.length - 1) * l.getLast hl := Nat.mul_le_mul_left _ (by omega)
  omega

theorem lv_eq_zero (B : Nat) (l : List Nat) (hB : 0 < B) (h : canon l) (e : lv B l = 0) : l = [] := by
  rcases Decidable.em (l = []) with hl | hl
  · exact hl
  · have := lv_ge B l hB h hl
    have := Nat.pow_pos (n := l.length - 1) hB
    omega

/-- canonical lists of one number are one -/
theorem lv_inj (B : Nat) (hB : 0 < B) : ∀ (a b : List Nat), (∀ x ∈ a, x < B) → (∀ x ∈ b, x < B) → canon a → canon b → lv B a = lv B b → a = b := by
  intro a
  induction a with
  | nil =>
    intro b _ _ _ hb e
    exact (lv_eq_zero B b hB hb (by rw [← e]; rfl)).symm
  | cons x a ih =>
    intro b ha hb ca cb e
    cases b with
    | nil => exact lv_eq_zero B _ hB ca (by rw [e]; rfl)
    | cons y b =>
      have hx := ha x (by simp)
      have hy := hb y (by simp)
      rw [lv_cons, lv_cons] at e
      have e1 : x = y := by
        have h1 : (x + B * lv B a) % B = x := by rw [Nat.add_mul_mod_self_left, Nat.mod_eq_of_lt hx]
        have h2 : (y + B * lv B b) % B = y := by rw [Nat.add_mul_mod_self_left, Nat.mod_eq_of_lt hy]
        rw [← h1, ← h2, e]
      subst e1
      have e2 : lv B a = lv B b := Nat.eq_of_mul_eq_mul_left hB (by omega)
      have ca' : canon a := fun h => by have := ca (by simp); rwa [List.getLast_cons h] at this
      have cb' : canon b := fun h => by have := cb (by simp); rwa [List.getLast_cons h] at this
      rw [ih b (fun z hz => ha z (by simp [hz])) (fun z hz => hb z (by simp [hz])) ca' cb' e2]

/-- the list without the noughts on top -/
def strip (l : List Nat) : List Nat := (l.reverse.dropWhile (· == 0)).reverse

theorem canon_of_get (l : List Nat) (h : 0 < l.length → l.getD (l.length - 1) 0 ≠ 0) : canon l := by
  intro hl
  have hp : 0 < l.length := List.length_pos_iff.2 hl
  have := h hp
  rw [List.getLast_eq_getElem hl]
  rwa [List.getD_eq_getElem?_getD, List.getElem?_eq_getElem (by omega)] at this

theorem canon_get {l : List Nat} (h : canon l) (hp : 0 < l.length) : l.getD (l.length - 1) 0 ≠ 0 := by
  have hl : l ≠ [] := List.length_pos_iff.1 hp
  have := h hl
  rw [List.getLast_eq_getElem hl] at this
  rwa [List.getD_eq_getElem?_getD, List.getElem?_eq_getElem (by omega)]

/-- noughts from place k on count for nothing -/
theorem lv_take_of_zero (B : Nat) (l : List Nat) (k : Nat) (hk : k ≤ l.length) (h : ∀ j, k ≤ j → j < l.length → l.getD j 0 = 0) : lv B (l.take k) = lv B l := by
  rw [lv_take_drop B l k hk, lv_all_zero B (l.drop k), Nat.mul_zero, Nat.add_zero]
  intro x hx
  obtain ⟨i, hi, rfl⟩ := List.mem_iff_getElem.1 hx
  have := h (k + i) (by omega) (by simp at hi; omega)
  rw [List.getElem_drop]
  rwa [List.getD_eq_getElem?_getD, List.getElem?_eq_getElem (by simp at hi; omega)] at this

theorem getD_lt {B : Nat} {l : List Nat} (h : ∀ x ∈ l, x < B) (hB : 0 < B) (k : Nat) : l.getD k 0 < B := by
  rw [List.getD_eq_getElem?_getD]
  cases e : l[k]? with
  | none => simpa using hB
  | some x => exact h x (List.mem_of_getElem? e)

/-- how many of the first n digits are left when the noughts on top are struck -/
def tl (l : List Nat) : Nat → Nat
  | 0 => 0
  | n + 1 => if l.getD n 0 = 0 then tl l n else n + 1

theorem tl_le (l : List Nat) (n : Nat) : tl l n ≤ n := by
  induction n with
  | zero => exact Nat.le_refl _
  | succ n ih => unfold tl; split <;> omega

theorem tl_zero (l : List Nat) (n : Nat) : ∀ j, tl l n ≤ j → j < n → l.getD j 0 = 0 := by
  induction n with
  | zero => intro j _ h; omega
  | succ n ih =>
    intro j h1 h2
    unfold tl at h1
    split at h1
    · rename_i h0
      rcases Nat.lt_or_ge j n with h | h
      · exact ih j h1 h
      · have : j = n := by omega
        subst this; exact h0
    · omega

theorem tl_top (l : List Nat) (n : Nat) (h : 0 < tl l n) : l.getD (tl l n - 1) 0 ≠ 0 := by
  induction n with
  | zero => simp [tl] at h
  | succ n ih =>
    by_cases h0 : l.getD n 0 = 0
    · have e : tl l (n + 1) = tl l n := by show (if _ then _ else _) = _; rw [if_pos h0]
      rw [e] at h ⊢; exact ih h
    · have e : tl l (n + 1) = n + 1 := by show (if _ then _ else _) = _; rw [if_neg h0]
      rw [e]; simpa using h0

/-- the list that tl leaves -/
def trimL (l : List Nat) : List Nat := l.take (tl l l.length)

theorem trimL_length (l : List Nat) : (trimL l).length = tl l l.length := by
  unfold trimL; rw [List.length_take, Nat.min_eq_left (tl_le _ _)]

theorem getD_take (l : List Nat) (k i : Nat) (h : i < k) : (l.take k).getD i 0 = l.getD i 0 := by
  rw [List.getD_eq_getElem?_getD, List.getElem?_take_of_lt h, ← List.getD_eq_getElem?_getD]

theorem trimL_canon (l : List Nat) : canon (trimL l) := by
  apply canon_of_get
  rw [trimL_length]
  intro h
  unfold trimL
  rw [getD_take _ _ _ (by omega)]
  exact tl_top l _ h

theorem lv_trimL (B : Nat) (l : List Nat) : lv B (trimL l) = lv B l := lv_take_of_zero B l _ (tl_le _ _) (tl_zero l _)

theorem mem_trimL {l : List Nat} {x : Nat} (h : x ∈ trimL l) : x ∈ l := List.mem_of_mem_take h

/-- of a canonical list nothing is struck -/
theorem tl_canon {l : List Nat} (h : canon l) : tl l l.length = l.length := by
  rcases Nat.eq_zero_or_pos l.length with e | hp
  · rw [e]; rfl
  · obtain ⟨n, hn⟩ : ∃ n, l.length = n + 1 := ⟨l.length - 1, by omega⟩
    have := canon_get h hp
    rw [hn] at this ⊢
    show (if _ then _ else _) = _
    rw [if_neg (by simpa using this)]

theorem trimL_canon_eq {l : List Nat} (h : canon l) : trimL l = l := by
  unfold trimL; rw [tl_canon h, List.take_length]

theorem getD_ge (l : List Nat) (k : Nat) (h : l.length ≤ k) : l.getD k 0 = 0 := by
  rw [List.getD_eq_getElem?_getD, List.getElem?_eq_none h]; rfl

/-- one digit more, wherever -/
theorem lv_take_next (B : Nat) (l : List Nat) (k : Nat) : lv B (l.take (k + 1)) = lv B (l.take k) + B ^ k * l.getD k 0 := by
  rcases Nat.lt_or_ge k l.length with h | h
  · exact lv_take_succ B l k h
  · rw [getD_ge l k h, List.take_of_length_le h, List.take_of_length_le (by omega)]; simp

theorem lv_take_set (B : Nat) (l : List Nat) (k x : Nat) (h : k < l.length) : lv B ((l.set k x).take (k + 1)) = lv B (l.take k) + B ^ k * x := by
  rw [lv_take_succ B _ _ (by simpa using h)]
  rw [List.take_set_of_le (Nat.le_refl k)]
  simp [List.getD_eq_getElem?_getD, h]

theorem mem_set_lt {B : Nat} {l : List Nat} {k x : Nat} (h : ∀ y ∈ l, y < B) (hx : x < B) : ∀ y ∈ l.set k x, y < B := by
  intro y hy
  rcases List.mem_or_eq_of_mem_set hy with h1 | h1
  · exact h y h1
  · rw [h1]; exact hx

/-- a step of a sum -/
theorem add_step (B : Nat) (L S R : List Nat) (k c : Nat) (hk : k < R.length)
    (h : lv B (R.take k) + B ^ k * c = lv B (L.take k) + lv B (S.take k)) :
    lv B ((R.set k ((L.getD k 0 + S.getD k 0 + c) % B)).take (k + 1)) + B ^ (k + 1) * ((L.getD k 0 + S.getD k 0 + c) / B) = lv B (L.take (k + 1)) + lv B (S.take (k + 1)) := by
  rw [lv_take_set B R k _ hk, lv_take_next B L, lv_take_next B S]
  have e := Nat.div_add_mod (L.getD k 0 + S.getD k 0 + c) B
  generalize L.getD k 0 = x at *
  generalize S.getD k 0 = y at *
  generalize (x + y + c) / B = q at *
  generalize (x + y + c) % B = r at *
  have e2 : B ^ k * r + B ^ (k + 1) * q = B ^ k * (x + y + c) := by
    rw [← e, Nat.pow_succ, Nat.mul_add, Nat.mul_assoc, Nat.add_comm]
  rw [Nat.mul_add, Nat.mul_add] at e2
  omega

/-- -1, 0, 1 -/
def cmpN (m n : Nat) : Int := if m < n then -1 else if m = n then 0 else 1

theorem lv_lt_of_len (B : Nat) (hB : 0 < B) (a b : List Nat) (ha : ∀ x ∈ a, x < B) (hb : canon b) (h : a.length < b.length) : lv B a < lv B b := by
  have h1 := lv_lt B a ha
  have h2 := lv_ge B b hB hb (by intro e; simp [e] at h)
  have h3 : B ^ a.length ≤ B ^ (b.length - 1) := Nat.pow_le_pow_right hB (by omega)
  omega

theorem lv_lt_of_digit (B : Nat) (a b : List Nat) (k : Nat) (ha : ∀ x ∈ a, x < B) (hka : k < a.length) (hkb : k < b.length)
    (hd : a.drop (k + 1) = b.drop (k + 1)) (h : a.getD k 0 < b.getD k 0) : lv B a < lv B b := by
  rw [lv_take_drop B a k (by omega), lv_take_drop B b k (by omega), lv_drop_succ B a k hka, lv_drop_succ B b k hkb, hd]
  have h1 := lv_lt B (a.take k) (fun x hx => ha x (List.mem_of_mem_take hx))
  rw [List.length_take, Nat.min_eq_left (by omega)] at h1
  generalize lv B (b.drop (k + 1)) = t
  generalize a.getD k 0 = x at *
  generalize b.getD k 0 = y at *
  have h2 : B ^ k * (x + B * t) + B ^ k ≤ B ^ k * (y + B * t) := by
    rw [← Nat.mul_succ]; exact Nat.mul_le_mul_left _ (by omega)
  omega

theorem drop_eq_of_digit {a b : List Nat} {k : Nat} (hka : k < a.length) (hkb : k < b.length) (hd : a.drop (k + 1) = b.drop (k + 1)) (h : a.getD k 0 = b.getD k 0) : a.drop k = b.drop k := by
  rw [List.drop_eq_getElem_cons hka, List.drop_eq_getElem_cons hkb, hd]
  congr 1
  simpa [List.getD_eq_getElem?_getD, List.getElem?_eq_getElem hka, List.getElem?_eq_getElem hkb] using h

/-- a step of a difference -/
theorem sub_step (B : Nat) (hB : 0 < B) (L S R : List Nat) (k c : Nat) (hk : k < R.length) (hx : L.getD k 0 < B) (hy : S.getD k 0 < B) (hc : c ≤ 1)
    (h : lv B (R.take k) + lv B (S.take k) = lv B (L.take k) + B ^ k * c) :
    lv B ((R.set k ((L.getD k 0 + B - S.getD k 0 - c) % B)).take (k + 1)) + lv B (S.take (k + 1)) = lv B (L.take (k + 1)) + B ^ (k + 1) * (if L.getD k 0 < S.getD k 0 + c then 1 else 0) := by
  rw [lv_take_set B R k _ hk, lv_take_next B L, lv_take_next B S]
  generalize L.getD k 0 = x at *
  generalize S.getD k 0 = y at *
  have e2 : B ^ k * ((x + B - y - c) % B) + B ^ k * y + B ^ k * c = B ^ k * x + B ^ (k + 1) * (if x < y + c then 1 else 0) := by
    rw [Nat.pow_succ, Nat.mul_assoc, ← Nat.mul_add, ← Nat.mul_add, ← Nat.mul_add]
    congr 1
    split
    · rw [Nat.mod_eq_of_lt (by omega)]; omega
    · have : x + B - y - c = (x - y - c) + B := by omega
      rw [this, Nat.add_mod_right, Nat.mod_eq_of_lt (by omega)]; omega
  omega

theorem getD_zeros (n j : Nat) : (List.replicate n 0).getD j 0 = 0 := by
  rw [List.getD_eq_getElem?_getD, List.getElem?_replicate]; split <;> rfl

theorem getD_set_ne (l : List Nat) (i j x : Nat) (h : i ≠ j) : (l.set i x).getD j 0 = l.getD j 0 := by
  simp [List.getD_eq_getElem?_getD, List.getElem?_set_ne h]
theorem getD_set_self (l : List Nat) (i x : Nat) (h : i < l.length) : (l.set i x).getD i 0 = x := by
  simp [List.getD_eq_getElem?_getD, h]

/-- a step of a shift upwards -/
theorem shl_step (B K : Nat) (L R : List Nat) (lim i : Nat) (hlen : lim + i + 1 < R.length)
    (h : lv B (R.take (lim + i + 1)) = B ^ lim * (K * lv B (L.take i))) :
    lv B (((R.set (lim + i) (R.getD (lim + i) 0 + L.getD i 0 * K % B)).set (lim + i + 1) (L.getD i 0 * K / B)).take (lim + (i + 1) + 1)) = B ^ lim * (K * lv B (L.take (i + 1))) := by
  have e1 : lim + (i + 1) + 1 = (lim + i + 1) + 1 := by omega
  rw [e1, lv_take_set B _ _ _ (by simpa using hlen), lv_take_set B R _ _ (by omega), lv_take_next B L i]
  rw [lv_take_succ B R (lim + i) (by omega)] at h
  have e2 := Nat.div_add_mod (L.getD i 0 * K) B
  generalize L.getD i 0 = x at *
  generalize R.getD (lim + i) 0 = c at *
  generalize x * K / B = q at *
  generalize x * K % B = r at *
  generalize lv B (R.take (lim + i)) = t at *
  generalize lv B (L.take i) = u at *
  rw [Nat.pow_succ, Nat.pow_add] at *
  generalize B ^ lim = p at *
  generalize B ^ i = s at *
  grind

/-- a digit of a shift downwards, and the sum of them -/
theorem shr_digits (B K M : Nat) (hB : B = K * M) (hK : 0 < K) (L : List Nat) (hL : ∀ x ∈ L, x < B) (lim : Nat) (R : List Nat)
    (hR : ∀ i, i < L.length - lim → R.getD i 0 = L.getD (lim + i) 0 / K + (L.getD (lim + i + 1) 0 * M) % B) : ∀ i, i ≤ L.length - lim →  i ≤ R.length →
    lv B (R.take i) * K + L.getD lim 0 % K = lv B ((L.drop lim).take i) + B ^ i * (L.getD (lim + i) 0 % K) := by
  intro i
  induction i with
  | zero => intro _ _; simp [lv]
  | succ i ih =>
    intro h1 h2
    have ihh := ih (by omega) (by omega)
    rw [lv_take_next B R i, lv_take_next B (L.drop lim) i, hR i (by omega)]
    have e0 : (L.drop lim).getD i 0 = L.getD (lim + i) 0 := by simp [List.getD_eq_getElem?_getD, List.getElem?_drop]
    rw [e0]
    have e1 := Nat.div_add_mod (L.getD (lim + i) 0) K
    have e2 : (L.getD (lim + i + 1) 0 * M) % B = (L.getD (lim + i + 1) 0 % K) * M := by
      rw [hB, Nat.mul_mod_mul_right]
    rw [e2]
    have e3 : lim + (i + 1) = lim + i + 1 := by omega
    rw [e3]
    generalize L.getD (lim + i) 0 = x at *
    generalize L.getD (lim + i + 1) 0 % K = y at *
    generalize L.getD lim 0 % K = z at *
    generalize lv B (R.take i) = t at *
    generalize lv B ((L.drop lim).take i) = u at *
    generalize x / K = xq at *
    generalize x % K = xr at *
    rw [Nat.pow_succ]
    generalize B ^ i = p at *
    subst hB
    grind

end Go.Proofs.YtgihapdlliidgaaDoor
