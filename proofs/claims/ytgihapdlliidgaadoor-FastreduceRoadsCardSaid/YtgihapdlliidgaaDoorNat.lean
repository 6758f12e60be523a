/- The walks of package nat. -/
import Derived.Test.YtgihapdlliidgaaDoorMem
namespace Go.Proofs.YtgihapdlliidgaaDoor
open Go Go.RowKit
set_option linter.unusedVariables false
set_option linter.unusedSimpArgs false

set_option maxHeartbeats 800000 in
theorem trim_calls (A : Option Addr) (c : Nat) (l : List Nat) (w : World) (hc : l.length ≤ c) (hm : l.length ≤ 1152921504606846976) (hr : Rd .u64 w A l) :
    Calls Tryd.prog 90 #[.slice A l.length c] w fun E w' => E = .returned (.slice A (tl l l.length) c) ∧ w = w' := by
  have HR := Lib.hid hr; clear hr
  go_enter Tryd.func90, Tryd.ntmps90
  go_wp2
  go_loop [3] (fun n => ∃ k : Nat, k ≤ l.length ∧ n = .int .i64 k ∧ Hid (tl l k = tl l l.length)) (fun n => (intOf n).toNat)
  case atStart => exact ⟨_, Nat.le_refl _, rfl, rfl⟩
  case round =>
    obtain ⟨k, hk, rfl, ht⟩ := hrel
    by_cases h0 : k = 0
    · subst h0
      have ht' : tl l l.length = 0 := ht.out.symm
      go_wp2
      go_ret
      exact ⟨rfl, rfl⟩
    · obtain ⟨k, rfl⟩ : ∃ m, k = m + 1 := ⟨k - 1, by omega⟩
      obtain ⟨b, o, rfl, hlt, hcell⟩ := HR.out (by omega)
      have hk0 := hcell k (by omega)
      clear hcell
      have e : tl l (k + 1) = if l.getD k 0 = 0 then tl l k else k + 1 := rfl
      rw [e] at ht
      by_cases hx : l.getD k 0 = 0
      · rw [if_pos hx] at ht
        rw [hx] at hk0
        clear hx e
        go_wp2
        go_round
        case rel => exact ⟨k, by omega, by go_num, ht⟩
        case measure => simp [intOf]
      · rw [if_neg hx] at ht
        have hx' : (((l.getD k 0 : Nat) : Int) == 0) = false := by simpa using hx
        have ht' : tl l l.length = k + 1 := ht.out.symm
        have HT := Lib.hid ht'
        generalize l.getD k 0 = y at *
        clear hx e ht ht'
        go_wp2
        go_ret
        exact ⟨by rw [HT.out]; rfl, rfl⟩


theorem info22 : (Tryd.prog.info? 22).map (fun i => (i.zero, i.size, i.bytes)) = some (some (.int .u64 0), 1, 8) := by kernel_rfl

/-- a natural in form at a slice value -/
def IsNat (w : World) (v : Value) (m : Nat) : Prop :=
  ∃ A c l, v = .slice A l.length c ∧ l.length ≤ c ∧ l.length ≤ 8192 ∧ Rd .u64 w A l ∧ (∀ x ∈ l, x < B64) ∧ canon l ∧ lv B64 l = m

theorem IsNat.below {w w' : World} {v : Value} {m : Nat} (h : IsNat w v m) (hb : Below w.heap.size w w') : IsNat w' v m := by
  obtain ⟨A, c, l, h1, h2, h3, h4, h5⟩ := h
  exact ⟨A, c, l, h1, h2, h3, h4.below hb, h5⟩

theorem IsNat.bd {w : World} {v : Value} {m : Nat} (h : IsNat w v m) : Bd w.heap.size v := by
  obtain ⟨A, c, l, rfl, h2, h3, h4, h5⟩ := h
  intro b o k l' c' e hl
  simp only [Value.slice.injEq] at e
  obtain ⟨rfl, rfl, rfl⟩ := e
  obtain ⟨b', o', e', hlt, _⟩ := h4 hl
  simp only [Option.some.injEq, Addr.mk.injEq] at e'
  omega
theorem IsNat.same {N n : Nat} {w w' : World} {v : Value} {m : Nat} (h : IsNat w v m) (hs : SameB N n w w') (hb : ∀ b o k l c, v = .slice (some ⟨b, o, k⟩) l c → 0 < l → (b < N ∨ N + n ≤ b)) : IsNat w' v m := by
  obtain ⟨A, c, l, rfl, h2, h3, h4, h5⟩ := h
  exact ⟨A, c, l, rfl, h2, h3, h4.same (c := c) hs (fun b o k e hl => hb b o k l.length c (by rw [e]) hl), h5⟩
theorem IsNat.same_lt {N n : Nat} {w w' : World} {v : Value} {m : Nat} (h : IsNat w v m) (hb : Bd N v) (hs : SameB N n w w') : IsNat w' v m := h.same hs fun b o k l c e hl => Or.inl (hb b o k l c e hl)
theorem IsNat.same_ge {N n M : Nat} {w w' : World} {v : Value} {m : Nat} (h : IsNat w v m) (hb : Ge M v) (hM : N + n ≤ M) (hs : SameB N n w w') : IsNat w' v m := h.same hs fun b o k l c e hl => Or.inr (Nat.le_trans hM ((hb b o k l c e).2 hl))

theorem IsNat.zero (w : World) : IsNat w (.slice none 0 0) 0 := ⟨none, 0, [], rfl, Nat.le_refl _, by simp, Rd.nil, by simp, canon_nil, rfl⟩

def formB (l : List Nat) : Bool := decide (l.length ≤ 8192) && (decide (l.length = 0) || decide (l.getD (l.length - 1) 0 ≠ 0))

set_option maxHeartbeats 800000 in
theorem natForm_calls (A : Option Addr) (c : Nat) (l : List Nat) (w : World) (hc : l.length ≤ c) (hm : l.length ≤ 1152921504606846976) (hr : Rd .u64 w A l) :
    Calls Tryd.prog 89 #[.slice A l.length c] w fun E w' => E = .returned (.bool (formB l)) ∧ w = w' := by
  have HR := Lib.hid hr; clear hr
  by_cases h1 : l.length ≤ 8192
  · by_cases h0 : l.length = 0
    · have e : formB l = true := by simp [formB, h0]
      rw [e]
      have h0' : ((l.length : Int) == 0) = true := by simp [h0]
      clear h0 e
      go_enter Tryd.func89, Tryd.ntmps89
      go_wp2
      go_ret
      exact ⟨rfl, rfl⟩
    · obtain ⟨b, o, rfl, hlt, hcell⟩ := HR.out (by omega)
      have hk := hcell (l.length - 1) (by omega)
      have e : formB l = !(((l.getD (l.length - 1) 0 : Nat) : Int) == 0) := by
        unfold formB
        rw [decide_eq_true h1, decide_eq_false h0]
        simp only [Bool.true_and, Bool.false_or]
        by_cases hz : l.getD (l.length - 1) 0 = 0
        · rw [hz]; simp
        · rw [decide_eq_true hz]; simp; exact_mod_cast hz
      rw [e]
      clear e hcell
      have h0' : ((l.length : Int) == 0) = false := by simpa using h0
      have h2 : 0 < l.length := by omega
      have h3 : (0 : Int) ≤ (l.length : Int) - 1 := by omega
      have h4 : (l.length : Int) - 1 < (l.length : Int) := by omega
      generalize l.getD (l.length - 1) 0 = y at *
      clear h0
      go_enter Tryd.func89, Tryd.ntmps89
      go_wp2
      go_ret
      exact ⟨rfl, rfl⟩
  · have e : formB l = false := by simp [formB, h1]
    rw [e]
    have h1' : ¬ ((l.length : Int) ≤ 8192) := by omega
    clear h1 e
    go_enter Tryd.func89, Tryd.ntmps89
    go_wp2
    go_ret
    exact ⟨rfl, rfl⟩

theorem formB_of_nat {l : List Nat} (h1 : l.length ≤ 8192) (h2 : canon l) : formB l = true := by
  unfold formB
  rw [decide_eq_true h1]
  by_cases h0 : l.length = 0
  · simp [h0]
  · have := canon_get h2 (by omega)
    rw [decide_eq_true this]; simp

set_option maxHeartbeats 400000 in
theorem natWord_calls (x : Nat) (hx : x < B64) (w : World) :
    Calls Tryd.prog 83 #[.int .u64 x] w fun E w' => ∃ v, E = .returned v ∧ IsNat w' v x ∧ Ge w.heap.size v ∧ Below w.heap.size w w' := by
  by_cases h0 : x = 0
  · subst h0
    go_enter Tryd.func83, Tryd.ntmps83
    go_wp2
    go_ret
    exact ⟨_, rfl, IsNat.zero _, Ge.nil _ _ _, Below.refl _ _⟩
  · have h0' : ((x : Int) == 0) = false := by simpa using h0
    have H := Lib.hid hx
    have HN := Lib.hid h0
    clear hx h0
    go_enter Tryd.func83, Tryd.ntmps83
    go_wp2
    go_ret
    refine ⟨_, rfl, ⟨some ⟨w.heap.size, 0, none⟩, 1, [x], rfl, Nat.le_refl _, by simp, ?_, ?_, ?_, by simp [lv]⟩, Ge.at_ (Nat.le_refl _), (Below.refl _ _).alloc (Nat.le_refl _) _⟩
    · intro _
      refine ⟨_, _, rfl, by simp, fun i hi => ?_⟩
      have : i = 0 := by simp at hi; omega
      subst this
      simp [World.cell?_alloc_new]
    · intro y hy; simp at hy; subst hy; exact H.out
    · intro h; simpa using HN.out

set_option maxHeartbeats 400000 in
theorem told_calls (A : Option Addr) (c : Nat) (l : List Nat) (w : World) (hc : l.length ≤ c) (hm : l.length ≤ 1152921504606846976) (hr : Rd .u64 w A l) (ht : tl l l.length ≤ 8192) :
    Calls Tryd.prog 91 #[.slice A l.length c] w fun E w' => E = .returned (.tuple #[.slice A (tl l l.length) c, .int .i64 0]) ∧ w = w' := by
  have HR := Lib.hid hr; clear hr
  have hb := tl_le l l.length
  go_enter Tryd.func91, Tryd.ntmps91
  go_wp2_with fail
  refine (trim_calls A c l _ hc hm HR.out).mono ?_
  rintro E w' ⟨rfl, rfl⟩
  go_wp2_with fail
  go_ret2
  exact ⟨rfl, rfl⟩


theorem natForm_nat {w : World} {A : Option Addr} {c : Nat} {l : List Nat} (hc : l.length ≤ c) (h8 : l.length ≤ 8192) (hr : Rd .u64 w A l) (hcan : canon l) :
    Calls Tryd.prog 89 #[.slice A l.length c] w fun E w' => E = .returned (.bool true) ∧ w = w' := by
  have := natForm_calls A c l w hc (by omega) hr
  rwa [formB_of_nat h8 hcan] at this

/-- what told leaves of an owned row is a natural in form -/
theorem told_nat {base g n : Nat} {w : World} {l : List Nat} (h : Own 22 .u64 base g w n l) (hB : ∀ x ∈ l, x < B64) (hm : n ≤ 1152921504606846976) (ht : lv B64 l < LIM) :
    Calls Tryd.prog 91 #[.slice (some ⟨g, 0, none⟩) n n] w fun E w' => ∃ v, E = .returned (.tuple #[v, .int .i64 0]) ∧ IsNat w' v (lv B64 l) ∧ Ge base v ∧ w = w' := by
  have e := h.2.1
  subst e
  have ht8 : tl l l.length ≤ 8192 := by
    have := canon_len (trimL_canon l) (by rw [lv_trimL]; exact ht)
    rwa [trimL_length] at this
  refine (told_calls _ _ l w (Nat.le_refl _) hm h.rd ht8).mono ?_
  rintro E w' ⟨rfl, rfl⟩
  refine ⟨_, rfl, ⟨some ⟨g, 0, none⟩, l.length, trimL l, by rw [trimL_length], by rw [trimL_length]; exact tl_le _ _, by rw [trimL_length]; exact ht8, h.rd.take _, fun x hx => hB x (mem_trimL hx), trimL_canon l, lv_trimL _ _⟩, Ge.at_ h.2.2.1, rfl⟩

/-- the arguments of a sum, the longer one first or last -/
def twoArgs (sw : Bool) (x y : Value) : Array Value := if sw = true then #[y, x] else #[x, y]

set_option maxRecDepth 100000 in
set_option maxHeartbeats 3200000 in
theorem natAdd_core (sw : Bool) (AL AS : Option Addr) (cL cS : Nat) (L S : List Nat) (w : World) (hord : sw = true → S.length < L.length) (hle : S.length ≤ L.length)
    (hcL : L.length ≤ cL) (hcS : S.length ≤ cS) (h8 : L.length ≤ 8192) (hrL : Rd .u64 w AL L) (hrS : Rd .u64 w AS S) (hBL : ∀ x ∈ L, x < B64) (hBS : ∀ x ∈ S, x < B64) (hkL : canon L) (hkS : canon S)
    (hsum : lv B64 L + lv B64 S < LIM) :
    Calls Tryd.prog 85 (twoArgs sw (.slice AL L.length cL) (.slice AS S.length cS)) w fun E w' => ∃ v, E = .returned (.tuple #[v, .int .i64 0]) ∧ IsNat w' v (lv B64 L + lv B64 S) ∧ Ge w.heap.size v ∧ Below w.heap.size w w' := by
  obtain ⟨i0, hi, hz0, hz1, hz2⟩ := info_parts info22
  have HL := Lib.hid hrL
  have HS := Lib.hid hrS
  have HBL := Lib.hid hBL
  have HBS := Lib.hid hBS
  have HkL := Lib.hid hkL
  have HkS := Lib.hid hkS
  have Hsum := Lib.hid hsum
  have Hord := Lib.hid hord
  have Hz0 := Lib.hid hz0
  have Hz1 := Lib.hid hz1
  have Hz2 := Lib.hid hz2
  have Hi := Lib.hid hi
  clear hrL hrS hBL hBS hkL hkS hsum hord hz0 hz1 hz2 hi
  cases sw with
  | false =>
    show Calls _ _ #[_, _] _ _
    have hlt : ¬ ((L.length : Int) < (S.length : Int)) := by omega
    go_enter Tryd.func85, Tryd.ntmps85
    go_wp2_with fail
    refine (natForm_nat hcL h8 HL.out HkL.out).mono ?_
    rintro E w' ⟨rfl, rfl⟩
    go_wp2_with fail
    refine (natForm_nat hcS (by omega) HS.out HkS.out).mono ?_
    rintro E w' ⟨rfl, rfl⟩
    go_wp2_with (refine wpList_make_full _ rfl (.tmp 27) (.tmp 27) 56 rfl w.heap.size 22 i0 _ 1 Tryd.underlying56 Hi.out Hz0.out Hz1.out .i64 .i64 _ _ (L.length + 1) rfl rfl ?c1 ?c2 ?c3 ?c4 ?c5 ?_)
    case c1 => omega
    case c2 => omega
    case c3 => rw [Hz2.out]; omega
    case c4 => unfold maxLen; omega
    case c5 => exact Nat.le_refl _
    intro w1 hown hgrow
    have HO := Own.new (k := .u64) (Nat.le_refl _) hown
    have HB : Below w.heap.size w w1 := (Below.refl _ _).grown hgrow (Nat.le_refl _) (fun _ h => by cases h)
    clear hown hgrow
    go_wp2
    go_loopw [7, 31] (fun cv iv wr => ∃ (k c : Nat) (R : List Nat), k ≤ L.length ∧ iv = .int .i64 k ∧ cv = .int .u64 c ∧ c ≤ 1 ∧ Hid (Own 22 .u64 w.heap.size w.heap.size wr (L.length + 1) R) ∧ Hid (Below w.heap.size w wr) ∧
        Hid (lv B64 (R.take k) + B64 ^ k * c = lv B64 (L.take k) + lv B64 (S.take k)) ∧ Hid (∀ x ∈ R, x < B64)) (fun _ iv _ => L.length - (intOf iv).toNat)
    case atStart => exact ⟨0, 0, List.replicate (L.length + 1) 0, Nat.zero_le _, rfl, rfl, by omega, HO, HB, by simp [lv, Hid], fun x hx => by rw [List.eq_of_mem_replicate hx]; exact B64_pos⟩
    case round =>
      obtain ⟨k, c, R, hk, rfl, rfl, hc1, hO, hB, hR, hRB⟩ := hrel
      by_cases hkl : k < L.length
      · obtain ⟨bL, oL, rfl, hltL, hcellL⟩ := HL.out (by omega)
        have hx := (hB.out.cell (p := ⟨bL, oL + k, none⟩) hltL).trans (hcellL k hkl)
        have hs := hO.out.cell k (by omega)
        have hf := hO.out.frozen k
        have hlen := hO.out.2.1
        have hstep := Lib.hid (add_step B64 L S R k c (by omega) hR.out)
        have hgx := getD_lt HBL.out B64_pos k
        have hgy := getD_lt HBS.out B64_pos k
        have hq : (L.getD k 0 + S.getD k 0 + c) / B64 ≤ 1 := by
          have : (L.getD k 0 + S.getD k 0 + c) / B64 < 2 := by rw [Nat.div_lt_iff_lt_mul B64_pos]; omega
          omega
        have hr : (L.getD k 0 + S.getD k 0 + c) % B64 < B64 := Nat.mod_lt _ B64_pos
        have hadd := add64_nat (L.getD k 0) (S.getD k 0) c hc1
        have HRB := Lib.hid (mem_set_lt (k := k) hRB.out hr)
        have HO2 := Lib.hid (hO.out.stored k ((L.getD k 0 + S.getD k 0 + c) % B64))
        have HB2 := Lib.hid (hB.out.setCell (p := ⟨w.heap.size, k, none⟩) (Nat.le_refl _) (.int .u64 (((L.getD k 0 + S.getD k 0 + c) % B64 : Nat) : Int)))
        have hBx := hB.out
        clear hcellL hO hB hR hRB hr hgx hgy hlen
        by_cases hks : k < S.length
        · obtain ⟨bS, oS, rfl, hltS, hcellS⟩ := HS.out (by omega)
          have hy := (hBx.cell (p := ⟨bS, oS + k, none⟩) hltS).trans (hcellS k hks)
          have hks' : ((k : Int) < (S.length : Int)) := by omega
          have hkl' : (k : Int) < (L.length : Int) := by omega
          clear hcellS hBx
          generalize L.getD k 0 = x at *
          generalize S.getD k 0 = y at *
          go_wp2
          go_roundw
          case rel => exact ⟨k + 1, _, _, by omega, by go_num, rfl, hq, HO2.out, HB2.out, hstep.out, HRB.out⟩
          case measure => simp [intOf] <;> omega
        · have hy0 : S.getD k 0 = 0 := getD_ge S k (by omega)
          simp only [hy0, Nat.add_zero] at hadd hq hstep HO2 HB2 HRB
          generalize L.getD k 0 = x at *
          clear hy0 hBx
          have hadd0 : ∀ w, (callFunc 56 #[.int .u64 (x : Int), .int .u64 0, .int .u64 (c : Int)]).run Tryd.prog w =
            .ok (.value (.tuple #[.int .u64 (((x + c) % B64 : Nat) : Int), .int .u64 (((x + c) / B64 : Nat) : Int)])) w := hadd
          clear hadd
          have hks' : ¬ ((k : Int) < (S.length : Int)) := by omega
          have hkl' : (k : Int) < (L.length : Int) := by omega
          go_wp2
          go_roundw
          case rel => exact ⟨k + 1, _, _, by omega, by go_num, rfl, hq, HO2.out, HB2.out, hstep.out, HRB.out⟩
          case measure => simp [intOf] <;> omega
      · obtain rfl : k = L.length := by omega
        have hs := hO.out.cell L.length (by omega)
        have hf := hO.out.frozen L.length
        have hlen := hO.out.2.1
        have hkl' : ¬ ((L.length : Int) < (L.length : Int)) := by omega
        have HO2 := hO.out.stored L.length c
        have HB2 := Lib.hid (hB.out.setCell (p := ⟨w.heap.size, L.length, none⟩) (Nat.le_refl _) (.int .u64 ((c : Nat) : Int)))
        have hcB : c < B64 := by have : 1 < B64 := by rw [B64_eq]; decide
                                 omega
        have HRB := mem_set_lt (k := L.length) hRB.out hcB
        have hlv : lv B64 (R.set L.length c) = lv B64 L + lv B64 S := by
          have e := lv_take_set B64 R L.length c (by omega)
          rw [List.take_of_length_le (by simp; omega)] at e
          rw [e, hR.out, List.take_length, List.take_of_length_le hle]
        have Htold := Lib.hid (told_nat HO2 HRB (by omega) (by rw [hlv]; exact Hsum.out))
        rw [hlv] at Htold
        clear HRB hlen hO hB hR hRB hcB HO2 hlv
        go_wp2_with fail
        refine Htold.out.mono ?_
        rintro E w' ⟨v, rfl, hv, hge, rfl⟩
        go_wp2_with fail
        go_ret2
        exact ⟨v, rfl, hv, hge, HB2.out⟩
  | true =>
    show Calls _ _ #[_, _] _ _
    have hlt : ((S.length : Int) < (L.length : Int)) := by have := Hord.out rfl; omega
    go_enter Tryd.func85, Tryd.ntmps85
    go_wp2_with fail
    refine (natForm_nat hcS (by omega) HS.out HkS.out).mono ?_
    rintro E w' ⟨rfl, rfl⟩
    go_wp2_with fail
    refine (natForm_nat hcL h8 HL.out HkL.out).mono ?_
    rintro E w' ⟨rfl, rfl⟩
    go_wp2_with (refine wpList_make_full _ rfl (.tmp 27) (.tmp 27) 56 rfl w.heap.size 22 i0 _ 1 Tryd.underlying56 Hi.out Hz0.out Hz1.out .i64 .i64 _ _ (L.length + 1) rfl rfl ?c1 ?c2 ?c3 ?c4 ?c5 ?_)
    case c1 => omega
    case c2 => omega
    case c3 => rw [Hz2.out]; omega
    case c4 => unfold maxLen; omega
    case c5 => exact Nat.le_refl _
    intro w1 hown hgrow
    have HO := Own.new (k := .u64) (Nat.le_refl _) hown
    have HB : Below w.heap.size w w1 := (Below.refl _ _).grown hgrow (Nat.le_refl _) (fun _ h => by cases h)
    clear hown hgrow
    go_wp2
    go_loopw [7, 31] (fun cv iv wr => ∃ (k c : Nat) (R : List Nat), k ≤ L.length ∧ iv = .int .i64 k ∧ cv = .int .u64 c ∧ c ≤ 1 ∧ Hid (Own 22 .u64 w.heap.size w.heap.size wr (L.length + 1) R) ∧ Hid (Below w.heap.size w wr) ∧
        Hid (lv B64 (R.take k) + B64 ^ k * c = lv B64 (L.take k) + lv B64 (S.take k)) ∧ Hid (∀ x ∈ R, x < B64)) (fun _ iv _ => L.length - (intOf iv).toNat)
    case atStart => exact ⟨0, 0, List.replicate (L.length + 1) 0, Nat.zero_le _, rfl, rfl, by omega, HO, HB, by simp [lv, Hid], fun x hx => by rw [List.eq_of_mem_replicate hx]; exact B64_pos⟩
    case round =>
      obtain ⟨k, c, R, hk, rfl, rfl, hc1, hO, hB, hR, hRB⟩ := hrel
      by_cases hkl : k < L.length
      · obtain ⟨bL, oL, rfl, hltL, hcellL⟩ := HL.out (by omega)
        have hx := (hB.out.cell (p := ⟨bL, oL + k, none⟩) hltL).trans (hcellL k hkl)
        have hs := hO.out.cell k (by omega)
        have hf := hO.out.frozen k
        have hlen := hO.out.2.1
        have hstep := Lib.hid (add_step B64 L S R k c (by omega) hR.out)
        have hgx := getD_lt HBL.out B64_pos k
        have hgy := getD_lt HBS.out B64_pos k
        have hq : (L.getD k 0 + S.getD k 0 + c) / B64 ≤ 1 := by
          have : (L.getD k 0 + S.getD k 0 + c) / B64 < 2 := by rw [Nat.div_lt_iff_lt_mul B64_pos]; omega
          omega
        have hr : (L.getD k 0 + S.getD k 0 + c) % B64 < B64 := Nat.mod_lt _ B64_pos
        have hadd := add64_nat (L.getD k 0) (S.getD k 0) c hc1
        have HRB := Lib.hid (mem_set_lt (k := k) hRB.out hr)
        have HO2 := Lib.hid (hO.out.stored k ((L.getD k 0 + S.getD k 0 + c) % B64))
        have HB2 := Lib.hid (hB.out.setCell (p := ⟨w.heap.size, k, none⟩) (Nat.le_refl _) (.int .u64 (((L.getD k 0 + S.getD k 0 + c) % B64 : Nat) : Int)))
        have hBx := hB.out
        clear hcellL hO hB hR hRB hr hgx hgy hlen
        by_cases hks : k < S.length
        · obtain ⟨bS, oS, rfl, hltS, hcellS⟩ := HS.out (by omega)
          have hy := (hBx.cell (p := ⟨bS, oS + k, none⟩) hltS).trans (hcellS k hks)
          have hks' : ((k : Int) < (S.length : Int)) := by omega
          have hkl' : (k : Int) < (L.length : Int) := by omega
          clear hcellS hBx
          generalize L.getD k 0 = x at *
          generalize S.getD k 0 = y at *
          go_wp2
          go_roundw
          case rel => exact ⟨k + 1, _, _, by omega, by go_num, rfl, hq, HO2.out, HB2.out, hstep.out, HRB.out⟩
          case measure => simp [intOf] <;> omega
        · have hy0 : S.getD k 0 = 0 := getD_ge S k (by omega)
          simp only [hy0, Nat.add_zero] at hadd hq hstep HO2 HB2 HRB
          generalize L.getD k 0 = x at *
          clear hy0 hBx
          have hadd0 : ∀ w, (callFunc 56 #[.int .u64 (x : Int), .int .u64 0, .int .u64 (c : Int)]).run Tryd.prog w =
            .ok (.value (.tuple #[.int .u64 (((x + c) % B64 : Nat) : Int), .int .u64 (((x + c) / B64 : Nat) : Int)])) w := hadd
          clear hadd
          have hks' : ¬ ((k : Int) < (S.length : Int)) := by omega
          have hkl' : (k : Int) < (L.length : Int) := by omega
          go_wp2
          go_roundw
          case rel => exact ⟨k + 1, _, _, by omega, by go_num, rfl, hq, HO2.out, HB2.out, hstep.out, HRB.out⟩
          case measure => simp [intOf] <;> omega
      · obtain rfl : k = L.length := by omega
        have hs := hO.out.cell L.length (by omega)
        have hf := hO.out.frozen L.length
        have hlen := hO.out.2.1
        have hkl' : ¬ ((L.length : Int) < (L.length : Int)) := by omega
        have HO2 := hO.out.stored L.length c
        have HB2 := Lib.hid (hB.out.setCell (p := ⟨w.heap.size, L.length, none⟩) (Nat.le_refl _) (.int .u64 ((c : Nat) : Int)))
        have hcB : c < B64 := by have : 1 < B64 := by rw [B64_eq]; decide
                                 omega
        have HRB := mem_set_lt (k := L.length) hRB.out hcB
        have hlv : lv B64 (R.set L.length c) = lv B64 L + lv B64 S := by
          have e := lv_take_set B64 R L.length c (by omega)
          rw [List.take_of_length_le (by simp; omega)] at e
          rw [e, hR.out, List.take_length, List.take_of_length_le hle]
        have Htold := Lib.hid (told_nat HO2 HRB (by omega) (by rw [hlv]; exact Hsum.out))
        rw [hlv] at Htold
        clear HRB hlen hO hB hR hRB hcB HO2 hlv
        go_wp2_with fail
        refine Htold.out.mono ?_
        rintro E w' ⟨v, rfl, hv, hge, rfl⟩
        go_wp2_with fail
        go_ret2
        exact ⟨v, rfl, hv, hge, HB2.out⟩


theorem natAdd_calls {w : World} {a b : Value} {m n : Nat} (ha : IsNat w a m) (hb : IsNat w b n) (hs : m + n < LIM) :
    Calls Tryd.prog 85 #[a, b] w fun E w' => ∃ v, E = .returned (.tuple #[v, .int .i64 0]) ∧ IsNat w' v (m + n) ∧ Ge w.heap.size v ∧ Below w.heap.size w w' := by
  obtain ⟨A, ca, la, rfl, ha1, ha2, ha3, ha4, ha5, rfl⟩ := ha
  obtain ⟨B, cb, lb, rfl, hb1, hb2, hb3, hb4, hb5, rfl⟩ := hb
  rcases Nat.lt_or_ge la.length lb.length with h | h
  · have := natAdd_core true B A cb ca lb la w (fun _ => h) (by omega) hb1 ha1 hb2 hb3 ha3 hb4 ha4 hb5 ha5 (by omega)
    rw [Nat.add_comm]; exact this
  · exact natAdd_core false A B ca cb la lb w (fun h => by cases h) h ha1 hb1 ha2 ha3 hb3 ha4 hb4 ha5 hb5 hs


set_option maxRecDepth 100000 in
set_option maxHeartbeats 3200000 in
theorem natCmp_calls {w : World} {a b : Value} {m n : Nat} (ha : IsNat w a m) (hb : IsNat w b n) :
    Calls Tryd.prog 75 #[a, b] w fun E w' => E = .returned (.int .i64 (cmpN m n)) ∧ Below w.heap.size w w' := by
  obtain ⟨A, ca, la, rfl, ha1, ha2, ha3, ha4, ha5, rfl⟩ := ha
  obtain ⟨B, cb, lb, rfl, hb1, hb2, hb3, hb4, hb5, rfl⟩ := hb
  have HA := Lib.hid ha3
  have HB := Lib.hid hb3
  have HBa := Lib.hid ha4
  have HBb := Lib.hid hb4
  have Hka := Lib.hid ha5
  have Hkb := Lib.hid hb5
  have TA := trim_calls A ca la w ha1 (by omega) ha3
  have TB := trim_calls B cb lb w hb1 (by omega) hb3
  rw [tl_canon ha5] at TA
  rw [tl_canon hb5] at TB
  have HTA := Lib.hid TA
  have HTB := Lib.hid TB
  clear ha3 hb3 ha4 hb4 ha5 hb5 TA TB
  rcases Nat.lt_trichotomy la.length lb.length with h | h | h
  · have hr : cmpN (lv B64 la) (lv B64 lb) = -1 := by unfold cmpN; rw [if_pos (lv_lt_of_len B64 B64_pos la lb HBa.out Hkb.out h)]
    rw [hr]
    clear hr
    have h1 : ((la.length : Int) != (lb.length : Int)) = true := by simp; omega
    have h2 : (la.length : Int) < (lb.length : Int) := by omega
    go_enter Tryd.func75, Tryd.ntmps75
    go_wp2_with fail
    refine HTA.out.mono ?_
    rintro E w' ⟨rfl, rfl⟩
    go_wp2_with fail
    refine HTB.out.mono ?_
    rintro E w' ⟨rfl, rfl⟩
    go_wp2_with fail
    go_ret
    exact ⟨rfl, Below.refl _ _⟩
  · have h1 : ((la.length : Int) != (lb.length : Int)) = false := by simp; omega
    have Hlen := Lib.hid h
    clear h
    go_enter Tryd.func75, Tryd.ntmps75
    go_wp2_with fail
    refine HTA.out.mono ?_
    rintro E w' ⟨rfl, rfl⟩
    go_wp2_with fail
    refine HTB.out.mono ?_
    rintro E w' ⟨rfl, rfl⟩
    go_wp2_with fail
    go_loopw [7] (fun iv wr => ∃ k : Nat, k ≤ la.length ∧ iv = .int .i64 ((k : Int) - 1) ∧ Hid (la.drop k = lb.drop k) ∧ Hid (Below w.heap.size w wr)) (fun iv _ => (intOf iv + 1).toNat)
    case atStart => exact ⟨la.length, Nat.le_refl _, rfl, by rw [List.drop_length, Hlen.out, List.drop_length]; rfl, Below.refl _ _⟩
    case round =>
      obtain ⟨k, hk, rfl, hd, hB⟩ := hrel
      by_cases h0 : k = 0
      · subst h0
        have hr : cmpN (lv B64 la) (lv B64 lb) = 0 := by
          have e : la = lb := by simpa using hd.out
          subst e; unfold cmpN; simp
        have Hr := Lib.hid hr
        clear hr
        go_wp2
        go_ret
        exact ⟨by rw [Hr.out]; rfl, hB.out⟩
      · obtain ⟨k, rfl⟩ : ∃ m, k = m + 1 := ⟨k - 1, by omega⟩
        have ek : (((k + 1 : Nat) : Int) - 1) = (k : Int) := by omega
        rw [ek]
        clear ek
        have hl2 : k < lb.length := by have := Hlen.out; omega
        obtain ⟨bA, oA, rfl, hltA, hcA⟩ := HA.out (by omega)
        obtain ⟨bB, oB, rfl, hltB, hcB⟩ := HB.out (by omega)
        have hx := (hB.out.cell (p := ⟨bA, oA + k, none⟩) hltA).trans (hcA k (by omega))
        have hy := (hB.out.cell (p := ⟨bB, oB + k, none⟩) hltB).trans (hcB k hl2)
        have i1 : (0 : Int) ≤ (k : Int) := by omega
        have i2 : (k : Int) < (la.length : Int) := by omega
        have i3 : (k : Int) < (lb.length : Int) := by omega
        clear hcA hcB
        rcases Nat.lt_trichotomy (la.getD k 0) (lb.getD k 0) with hd1 | hd1 | hd1
        · have hr : cmpN (lv B64 la) (lv B64 lb) = -1 := by unfold cmpN; rw [if_pos (lv_lt_of_digit B64 la lb k HBa.out (by omega) hl2 hd.out hd1)]
          have Hr := Lib.hid hr
          generalize la.getD k 0 = x at *
          generalize lb.getD k 0 = y at *
          have t1 : ((x : Int) != (y : Int)) = true := by simp; omega
          have t2 : (x : Int) < (y : Int) := by omega
          clear hr h0
          go_wp2
          go_quiet (fail)
          go_wp2
          go_quiet (fail)
          go_wp2
          go_ret
          exact ⟨by rw [Hr.out]; rfl, below_dn (below_dn hB.out _) _⟩
        · have hd2 := Lib.hid (drop_eq_of_digit (by omega) hl2 hd.out hd1)
          rw [← hd1] at hy
          generalize la.getD k 0 = x at *
          have t1 : ((x : Int) != (x : Int)) = false := by simp
          clear hd1 h0
          go_wp2
          go_quiet (fail)
          go_wp2
          go_roundw
          case rel => exact ⟨k, by omega, rfl, hd2.out, below_dn hB.out _⟩
          case measure => simp [intOf] <;> omega
        · have hr : cmpN (lv B64 la) (lv B64 lb) = 1 := by
            have := lv_lt_of_digit B64 lb la k HBb.out hl2 (by omega) hd.out.symm hd1
            unfold cmpN; rw [if_neg (by omega), if_neg (by omega)]
          have Hr := Lib.hid hr
          generalize la.getD k 0 = x at *
          generalize lb.getD k 0 = y at *
          have t1 : ((x : Int) != (y : Int)) = true := by simp; omega
          have t2 : ¬ (x : Int) < (y : Int) := by omega
          clear hr h0
          go_wp2
          go_quiet (fail)
          go_wp2
          go_quiet (fail)
          go_wp2
          go_ret
          exact ⟨by rw [Hr.out]; rfl, below_dn (below_dn hB.out _) _⟩
  · have hr : cmpN (lv B64 la) (lv B64 lb) = 1 := by
      have := lv_lt_of_len B64 B64_pos lb la HBb.out Hka.out h
      unfold cmpN; rw [if_neg (by omega), if_neg (by omega)]
    rw [hr]
    clear hr
    have h1 : ((la.length : Int) != (lb.length : Int)) = true := by simp; omega
    have h2 : ¬ ((la.length : Int) < (lb.length : Int)) := by omega
    go_enter Tryd.func75, Tryd.ntmps75
    go_wp2_with fail
    refine HTA.out.mono ?_
    rintro E w' ⟨rfl, rfl⟩
    go_wp2_with fail
    refine HTB.out.mono ?_
    rintro E w' ⟨rfl, rfl⟩
    go_wp2_with fail
    go_ret
    exact ⟨rfl, Below.refl _ _⟩


set_option maxRecDepth 100000 in
set_option maxHeartbeats 3200000 in
theorem natSub_core (AL AS : Option Addr) (cL cS : Nat) (L S : List Nat) (w : World) (hle : S.length ≤ L.length) (hge : lv B64 S ≤ lv B64 L)
    (hcL : L.length ≤ cL) (hcS : S.length ≤ cS) (h8 : L.length ≤ 8192) (hrL : Rd .u64 w AL L) (hrS : Rd .u64 w AS S) (hBL : ∀ x ∈ L, x < B64) (hBS : ∀ x ∈ S, x < B64) (hkL : canon L) (hkS : canon S) :
    Calls Tryd.prog 86 #[.slice AL L.length cL, .slice AS S.length cS] w fun E w' => ∃ v, E = .returned (.tuple #[v, .int .i64 0]) ∧ IsNat w' v (lv B64 L - lv B64 S) ∧ Ge w.heap.size v ∧ Below w.heap.size w w' := by
  obtain ⟨i0, hi, hz0, hz1, hz2⟩ := info_parts info22
  have HL := Lib.hid hrL
  have HS := Lib.hid hrS
  have HBL := Lib.hid hBL
  have HBS := Lib.hid hBS
  have HkL := Lib.hid hkL
  have HkS := Lib.hid hkS
  have Hge := Lib.hid hge
  have Hz0 := Lib.hid hz0
  have Hz1 := Lib.hid hz1
  have Hz2 := Lib.hid hz2
  have Hi := Lib.hid hi
  have hcmp : ¬ cmpN (lv B64 L) (lv B64 S) < 0 := by unfold cmpN; split <;> (try split) <;> omega
  have HC := Lib.hid (natCmp_calls (w := w) (a := .slice AL L.length cL) (b := .slice AS S.length cS) (m := lv B64 L) (n := lv B64 S) ⟨AL, cL, L, rfl, hcL, h8, hrL, hBL, hkL, rfl⟩ ⟨AS, cS, S, rfl, hcS, by omega, hrS, hBS, hkS, rfl⟩)
  generalize cmpN (lv B64 L) (lv B64 S) = cc at *
  clear hrL hrS hBL hBS hkL hkS hge hz0 hz1 hz2 hi
  go_enter Tryd.func86, Tryd.ntmps86
  go_wp2_with fail
  refine (natForm_nat hcL h8 HL.out HkL.out).mono ?_
  rintro E w' ⟨rfl, rfl⟩
  go_wp2_with fail
  refine (natForm_nat hcS (by omega) HS.out HkS.out).mono ?_
  rintro E w' ⟨rfl, rfl⟩
  go_wp2_with fail
  refine HC.out.mono ?_
  rintro E wc ⟨rfl, hbc⟩
  have HBC := Lib.hid hbc
  have hsz := hbc.size
  clear hbc
  go_wp2_with (refine wpList_make_full _ rfl (.tmp 23) (.tmp 23) 56 rfl wc.heap.size 22 i0 _ 1 Tryd.underlying56 Hi.out Hz0.out Hz1.out .i64 .i64 _ _ L.length rfl rfl ?c1 ?c2 ?c3 ?c4 ?c5 ?_)
  case c1 => omega
  case c2 => omega
  case c3 => rw [Hz2.out]; omega
  case c4 => unfold maxLen; omega
  case c5 => exact Nat.le_refl _
  intro w1 hown hgrow
  have HO := Own.new (k := .u64) (Nat.le_refl _) hown
  have HB : Below w.heap.size w w1 := HBC.out.grown hgrow hsz (fun _ h => by cases h)
  clear hown hgrow
  go_wp2
  go_loopw [7, 27] (fun cv iv wr => ∃ (k c : Nat) (R : List Nat), k ≤ L.length ∧ iv = .int .i64 k ∧ cv = .int .u64 c ∧ c ≤ 1 ∧ Hid (Own 22 .u64 wc.heap.size wc.heap.size wr L.length R) ∧ Hid (Below w.heap.size w wr) ∧
      Hid (lv B64 (R.take k) + lv B64 (S.take k) = lv B64 (L.take k) + B64 ^ k * c) ∧ Hid (∀ x ∈ R, x < B64)) (fun _ iv _ => L.length - (intOf iv).toNat)
  case atStart => exact ⟨0, 0, List.replicate L.length 0, Nat.zero_le _, rfl, rfl, by omega, HO, HB, by simp [lv, Hid], fun x hx => by rw [List.eq_of_mem_replicate hx]; exact B64_pos⟩
  case round =>
    obtain ⟨k, c, R, hk, rfl, rfl, hc1, hO, hB, hR, hRB⟩ := hrel
    by_cases hkl : k < L.length
    · obtain ⟨bL, oL, rfl, hltL, hcellL⟩ := HL.out (by omega)
      have hx := (hB.out.cell (p := ⟨bL, oL + k, none⟩) hltL).trans (hcellL k hkl)
      have hs := hO.out.cell k (by omega)
      have hf := hO.out.frozen k
      have hlen := hO.out.2.1
      have hgx := getD_lt HBL.out B64_pos k
      have hgy := getD_lt HBS.out B64_pos k
      have hstep := Lib.hid (sub_step B64 B64_pos L S R k c (by omega) hgx hgy hc1 hR.out)
      have hq : (if L.getD k 0 < S.getD k 0 + c then 1 else 0 : Nat) ≤ 1 := by split <;> omega
      have hr : (L.getD k 0 + B64 - S.getD k 0 - c) % B64 < B64 := Nat.mod_lt _ B64_pos
      have hadd := sub64_nat (L.getD k 0) (S.getD k 0) c hc1
      have HRB := Lib.hid (mem_set_lt (k := k) hRB.out hr)
      have HO2 := Lib.hid (hO.out.stored k ((L.getD k 0 + B64 - S.getD k 0 - c) % B64))
      have HB2 := Lib.hid (hB.out.setCell (p := ⟨wc.heap.size, k, none⟩) hsz (.int .u64 (((L.getD k 0 + B64 - S.getD k 0 - c) % B64 : Nat) : Int)))
      have hBx := hB.out
      generalize (if L.getD k 0 < S.getD k 0 + c then 1 else 0 : Nat) = q at *
      generalize (L.getD k 0 + B64 - S.getD k 0 - c) % B64 = r at *
      clear hcellL hO hB hR hRB hr hgx hgy hlen
      by_cases hks : k < S.length
      · obtain ⟨bS, oS, rfl, hltS, hcellS⟩ := HS.out (by omega)
        have hy := (hBx.cell (p := ⟨bS, oS + k, none⟩) hltS).trans (hcellS k hks)
        have hks' : ((k : Int) < (S.length : Int)) := by omega
        have hkl' : (k : Int) < (L.length : Int) := by omega
        clear hcellS hBx
        generalize L.getD k 0 = x at *
        generalize S.getD k 0 = y at *
        go_wp2
        go_roundw
        case rel => exact ⟨k + 1, _, _, by omega, by go_num, rfl, hq, HO2.out, HB2.out, hstep.out, HRB.out⟩
        case measure => simp [intOf] <;> omega
      · have hy0 : S.getD k 0 = 0 := getD_ge S k (by omega)
        simp only [hy0] at hadd
        generalize L.getD k 0 = x at *
        clear hy0 hBx
        have hadd0 : ∀ w, (callFunc 34 #[.int .u64 (x : Int), .int .u64 0, .int .u64 (c : Int)]).run Tryd.prog w =
          .ok (.value (.tuple #[.int .u64 ((r : Nat) : Int), .int .u64 ((q : Nat) : Int)])) w := hadd
        clear hadd
        have hks' : ¬ ((k : Int) < (S.length : Int)) := by omega
        have hkl' : (k : Int) < (L.length : Int) := by omega
        go_wp2
        go_roundw
        case rel => exact ⟨k + 1, _, _, by omega, by go_num, rfl, hq, HO2.out, HB2.out, hstep.out, HRB.out⟩
        case measure => simp [intOf] <;> omega
    · obtain rfl : k = L.length := by omega
      have hlen := hO.out.2.1
      have hkl' : ¬ ((L.length : Int) < (L.length : Int)) := by omega
      have hlv : lv B64 R = lv B64 L - lv B64 S := by
        have e := hR.out
        rw [List.take_length, List.take_of_length_le hle, List.take_of_length_le (by omega)] at e
        have h1 := lv_lt B64 R hRB.out
        rw [hlen] at h1
        have h2 := Hge.out
        have : c = 0 := by
          rcases Nat.eq_zero_or_pos c with h | h
          · exact h
          · exfalso
            obtain rfl : c = 1 := by omega
            omega
        subst this
        omega
      have hlim : lv B64 R < LIM := lv_lt_LIM hRB.out (by omega)
      have Htold := Lib.hid (told_nat hO.out hRB.out (by omega) hlim)
      rw [hlv] at Htold
      have HB2 := Lib.hid hB.out
      clear hlen hO hB hR hRB hlv hlim
      go_wp2_with fail
      refine Htold.out.mono ?_
      rintro E w' ⟨v, rfl, hv, hge, rfl⟩
      go_wp2_with fail
      go_ret2
      exact ⟨v, rfl, hv, hge.mono hsz, HB2.out⟩

theorem natSub_calls {w : World} {a b : Value} {m n : Nat} (ha : IsNat w a m) (hb : IsNat w b n) (hs : n ≤ m) :
    Calls Tryd.prog 86 #[a, b] w fun E w' => ∃ v, E = .returned (.tuple #[v, .int .i64 0]) ∧ IsNat w' v (m - n) ∧ Ge w.heap.size v ∧ Below w.heap.size w w' := by
  obtain ⟨A, ca, la, rfl, ha1, ha2, ha3, ha4, ha5, rfl⟩ := ha
  obtain ⟨B, cb, lb, rfl, hb1, hb2, hb3, hb4, hb5, rfl⟩ := hb
  have h : lb.length ≤ la.length := by
    rcases Nat.lt_or_ge la.length lb.length with h | h
    · have := lv_lt_of_len B64 B64_pos la lb ha4 hb5 h; omega
    · exact h
  exact natSub_core A B ca cb la lb w h hs ha1 hb1 ha2 ha3 hb3 ha4 hb4 ha5 hb5

end Go.Proofs.YtgihapdlliidgaaDoor
