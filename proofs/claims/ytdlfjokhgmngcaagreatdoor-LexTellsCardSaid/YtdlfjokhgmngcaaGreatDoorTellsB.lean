/- LexTells: the document's lexer, as it was printed, comes to what the program's comes to: one token, the whole, comparing. No program in sight. -/
import Derived.Test.YtdlfjokhgmngcaaGreatDoorTellsA
namespace Go.Proofs.YtdlfjokhgmngcaaGreatDoor.Lx
open Go.RowKit Go.Shelf Go.Proofs.YtdlfjokhgmngcaaGreatDoorW.PrintWords Go.Proofs.YtdlfjokhgmngcaaGreatDoorW.PrintMore Go.Proofs.YtdlfjokhgmngcaaGreatDoor.PLexTells
set_option linter.unusedVariables false
set_option linter.unusedSimpArgs false

theorem letter_f (c : UInt8) : ploverref02_Letter.f (c.toNat : Int) = some (hasS (c.toNat : Int) 2) := let_f c.toNat c.toNat_lt
theorem digit_f (c : UInt8) : ploverref02_Digit.f (c.toNat : Int) = some (hasS (c.toNat : Int) 4) := dig_f c.toNat c.toNat_lt
theorem six (c : UInt8) : hasS (c.toNat : Int) 6 = (hasS (c.toNat : Int) 2 || hasS (c.toNat : Int) 4) := (has_num c.toNat c.toNat_lt).2

/-- A token as the document's 'one' gives it. -/
abbrev T7 : Type := Int × Int × Int × ByteArray × Int × Int × Int

theorem fin_eq (s : ByteArray) (hs : s.size ≤ 1000000) (p q : Nat) (l : Int) (hpq : p ≤ q) (hq : q ≤ s.size) :
    (if (wrap64 ((q : Int) - (p : Int))) > 16 then (some ((0, (p : Int), l, (⟨#[]⟩ : ByteArray), 0, 4, (p : Int)) : T7)) else (if (0 : Int) ≤ p then (if (p : Int) ≤ q then (if (q : Int) ≤ (s.size : Int) then (some ((1, (p : Int), l, s.extract (p : Int).toNat (q : Int).toNat, 0, 0, 0) : T7)) else (none)) else (none)) else (none))) =
      some (if 16 < q - p then ((0, (p : Int), l, (⟨#[]⟩ : ByteArray), 0, 4, (p : Int)) : T7) else (1, (p : Int), l, s.extract p q, 0, 0, 0)) := by
  rw [wr (by omega) (by omega)]
  by_cases h : 16 < q - p
  · rw [if_pos (by omega), if_pos h]
  · rw [if_neg (by omega), if_neg h, if_pos (by omega), if_pos (by omega), if_pos (by omega), Int.toNat_natCast, Int.toNat_natCast]

set_option maxHeartbeats 4000000 in
theorem name_ev (s : ByteArray) (hs : s.size ≤ 1000000) (p : Nat) (l : Int) : ∀ (n : Nat) (R : List UInt8) (q : Nat), R.length ≤ n → s.data.toList.drop q = R → p ≤ q → q ≤ s.size →
    Ev (fun k => ploverref02_one.l0 k s p q 0 p l ⟨#[]⟩ 0) (if 16 < q + whileN 6 R - p then ((0, (p : Int), l, (⟨#[]⟩ : ByteArray), 0, 4, (p : Int)) : T7) else (1, (p : Int), l, s.extract p (q + whileN 6 R), 0, 0, 0)) := by
  have eL : s.data.toList.length = s.size := rfl
  have hst : ∀ q : Nat, s.data.toList.drop q = [] → p ≤ q → q ≤ s.size → Ev (fun k => ploverref02_one.l0 k s p q 0 p l ⟨#[]⟩ 0) (if 16 < q + whileN 6 [] - p then ((0, (p : Int), l, (⟨#[]⟩ : ByteArray), 0, 4, (p : Int)) : T7) else (1, (p : Int), l, s.extract p (q + whileN 6 []), 0, 0, 0)) := by
    intro q h hpq hq
    refine Ev.step (f := fun k => some (if 16 < q + whileN 6 [] - p then ((0, (p : Int), l, (⟨#[]⟩ : ByteArray), 0, 4, (p : Int)) : T7) else (1, (p : Int), l, s.extract p (q + whileN 6 []), 0, 0, 0))) (fun k => ?_) (Ev.now _)
    simp only [ploverref02_one.l0]
    rw [if_neg (end_of h), show whileN 6 [] = 0 from rfl, Nat.add_zero]
    exact fin_eq s hs p q l hpq hq
  intro n
  induction n with
  | zero =>
    intro R q hn h hpq hq
    obtain rfl := List.length_eq_zero_iff.1 (show R.length = 0 by omega)
    exact hst q h hpq hq
  | succ n ih =>
    intro R q hn h hpq hq
    cases R with
    | nil => exact hst q h hpq hq
    | cons c r =>
      obtain ⟨h1, h2, h3⟩ := bt_of h
      have h6 := six c
      have hw := Aside0.mk (show wrap64 ((q : Int) + 1) = (q : Int) + 1 from wr (by omega) (by omega))
      cases h22 : hasS (c.toNat : Int) 2 with
      | true =>
        have e : whileN 6 (c :: r) = whileN 6 r + 1 := by
          unfold whileN; rw [List.takeWhile_cons, h6, h22]; rfl
        have ih' := ih r (q + 1) (by simpa using hn) h3 (by omega) (by omega)
        rw [show (((q + 1 : Nat)) : Int) = (q : Int) + 1 by omega, show q + 1 + whileN 6 r = q + (whileN 6 r + 1) by omega] at ih'
        rw [e]
        refine Ev.step (fun k => ?_) ih'
        simp only [ploverref02_one.l0]
        rw [if_pos h1, if_pos (by omega), h2, letter_f, h22, hw.out]
        rfl
      | false =>
        cases h44 : hasS (c.toNat : Int) 4 with
        | true =>
          have e : whileN 6 (c :: r) = whileN 6 r + 1 := by
            unfold whileN; rw [List.takeWhile_cons, h6, h22, h44]; rfl
          have ih' := ih r (q + 1) (by simpa using hn) h3 (by omega) (by omega)
          rw [show (((q + 1 : Nat)) : Int) = (q : Int) + 1 by omega, show q + 1 + whileN 6 r = q + (whileN 6 r + 1) by omega] at ih'
          rw [e]
          refine Ev.step (fun k => ?_) ih'
          simp only [ploverref02_one.l0]
          rw [if_pos h1, if_pos (by omega), h2, letter_f, h22, digit_f, h44, hw.out]
          rfl
        | false =>
          have e : whileN 6 (c :: r) = 0 := by
            unfold whileN; rw [List.takeWhile_cons, h6, h22, h44]; rfl
          rw [e, Nat.add_zero]
          refine Ev.step (f := fun k => some (if 16 < q - p then ((0, (p : Int), l, (⟨#[]⟩ : ByteArray), 0, 4, (p : Int)) : T7) else (1, (p : Int), l, s.extract p q, 0, 0, 0))) (fun k => ?_) (Ev.now _)
          simp only [ploverref02_one.l0]
          rw [if_pos h1, if_pos (by omega), h2, letter_f, h22, digit_f, h44]
          simp only [Option.bind_some]
          rw [if_neg (by decide), if_neg (by decide)]
          exact fin_eq s hs p q l hpq hq

/-! ### a number's end -/
def tailAt (s : ByteArray) (q : Nat) : Bool := match s.data.toList[q]? with
  | some c => hasS (c.toNat : Int) 6
  | none => false
theorem capN_ge {v : Nat} : ((capN v : Nat) : Int) ≥ 4294967296 ↔ 4294967296 ≤ v := by unfold capN; omega
theorem capN_id {v : Nat} (h : v < 4294967296) : capN v = v := by unfold capN; omega

theorem tok_eq (s : ByteArray) (p q : Nat) (v l : Int) (hpq : p ≤ q) (hq : q ≤ s.size) :
    (if (0 : Int) ≤ p then (if (p : Int) ≤ q then (if (q : Int) ≤ (s.size : Int) then (some ((2, (p : Int), l, s.extract (p : Int).toNat (q : Int).toNat, v, 0, 0) : T7)) else (none)) else (none)) else (none)) = some ((2, (p : Int), l, s.extract p q, v, 0, 0) : T7) := by
  rw [if_pos (by omega), if_pos (by omega), if_pos (by omega), Int.toNat_natCast, Int.toNat_natCast]

set_option maxHeartbeats 4000000 in
theorem j2_ev (s : ByteArray) (p q v : Nat) (l : Int) (hpq : p ≤ q) (hq : q ≤ s.size) :
    Ev (fun k => ploverref02_one.j2 k s p ((capN v : Nat) : Int) q 0 p l ⟨#[]⟩ 0)
      (if 4294967296 ≤ v then ((0, (p : Int), l, (⟨#[]⟩ : ByteArray), 0, 10, (p : Int)) : T7) else if tailAt s q = true then (0, (p : Int), l, (⟨#[]⟩ : ByteArray), 0, 7, (q : Int)) else (2, (p : Int), l, s.extract p q, (v : Int), 0, 0)) := by
  have eL : s.data.toList.length = s.size := rfl
  by_cases hv : 4294967296 ≤ v
  · rw [if_pos hv]
    refine Ev.step (f := fun k => some ((0, (p : Int), l, (⟨#[]⟩ : ByteArray), 0, 10, (p : Int)) : T7)) (fun k => ?_) (Ev.now _)
    simp only [ploverref02_one.j2]
    rw [if_pos (capN_ge.2 hv)]
  · rw [if_neg hv, capN_id (by omega)]
    have hv2 : ¬ (v : Int) ≥ 4294967296 := by omega
    cases hR : s.data.toList.drop q with
    | nil =>
      have ht : tailAt s q = false := by
        have := congrArg List.head? hR
        rw [List.head?_drop] at this
        unfold tailAt
        rw [this]; rfl
      rw [ht, if_neg (by decide)]
      refine Ev.step (f := fun k => some ((2, (p : Int), l, s.extract p q, (v : Int), 0, 0) : T7)) (fun k => ?_) (Ev.now _)
      simp only [ploverref02_one.j2]
      rw [if_neg hv2, if_neg (end_of hR)]
      exact tok_eq s p q v l hpq hq
    | cons c r =>
      obtain ⟨h1, h2, h3⟩ := bt_of hR
      have ht : tailAt s q = (hasS (c.toNat : Int) 2 || hasS (c.toNat : Int) 4) := by
        have := congrArg List.head? hR
        rw [List.head?_drop] at this
        unfold tailAt
        rw [this, ← six]; rfl
      rw [ht]
      cases h22 : hasS (c.toNat : Int) 2 with
      | true =>
        rw [Bool.true_or, if_pos rfl]
        refine Ev.step (f := fun k => some ((0, (p : Int), l, (⟨#[]⟩ : ByteArray), 0, 7, (q : Int)) : T7)) (fun k => ?_) (Ev.now _)
        simp only [ploverref02_one.j2]
        rw [if_neg hv2, if_pos h1, if_pos (by omega), h2, letter_f, h22]
        rfl
      | false =>
        cases h44 : hasS (c.toNat : Int) 4 with
        | true =>
          rw [Bool.or_true, if_pos rfl]
          refine Ev.step (f := fun k => some ((0, (p : Int), l, (⟨#[]⟩ : ByteArray), 0, 7, (q : Int)) : T7)) (fun k => ?_) (Ev.now _)
          simp only [ploverref02_one.j2]
          rw [if_neg hv2, if_pos h1, if_pos (by omega), h2, letter_f, h22, digit_f, h44]
          rfl
        | false =>
          rw [Bool.or_false, if_neg (by decide)]
          refine Ev.step (f := fun k => some ((2, (p : Int), l, s.extract p q, (v : Int), 0, 0) : T7)) (fun k => ?_) (Ev.now _)
          simp only [ploverref02_one.j2]
          rw [if_neg hv2, if_pos h1, if_pos (by omega), h2, letter_f, h22, digit_f, h44]
          simp only [Option.bind_some]
          rw [if_neg (by decide), if_neg (by decide)]
          exact tok_eq s p q v l hpq hq

/-! ### marks -/
def marksM : List ByteArray := (ploverref02_Marks.f).getD []
theorem marks_some : ploverref02_Marks.f = some marksM := by
  obtain ⟨r, hr⟩ : ∃ r, ploverref02_Marks.f = some r := ⟨_, rfl⟩
  rw [marksM, hr]; rfl
def onesL : List UInt8 := [123, 125, 40, 41, 91, 93, 59, 58, 44, 46, 61, 60, 62, 43, 45, 42, 47, 37, 38, 94, 124, 126, 33]
theorem marks_parts : marksM = twosL.map (fun m => (⟨m.toArray⟩ : ByteArray)) ++ onesL.map fun x => (⟨#[x]⟩ : ByteArray) := by decide +kernel
set_option maxRecDepth 100000 in
theorem ones_all : ∀ n : Nat, n < 256 → onesL.contains (UInt8.ofNat n) = hasS (n : Int) 8 := by decide +kernel
theorem ones_has (c : UInt8) : onesL.contains c = hasS (c.toNat : Int) 8 := by
  have := ones_all c.toNat c.toNat_lt
  rwa [UInt8.ofNat_toNat] at this
set_option maxRecDepth 100000 in
theorem twos_has_all : ∀ n : Nat, n < 256 → (twosL.any fun m => m.head? == some (UInt8.ofNat n)) = true → hasS (n : Int) 8 = true := by decide +kernel
theorem twos_len : ∀ m ∈ twosL, m.length = 2 := by decide
theorem twos_one {c : UInt8} {r : List UInt8} (h : twosL.any (fun m => m.isPrefixOf (c :: r)) = true) : hasS (c.toNat : Int) 8 = true := by
  have := twos_has_all c.toNat c.toNat_lt
  rw [UInt8.ofNat_toNat] at this
  refine this ?_
  obtain ⟨m, hm, hp⟩ := List.any_eq_true.1 h
  refine List.any_eq_true.2 ⟨m, hm, ?_⟩
  have hl := twos_len m hm
  cases m with
  | nil => simp at hl
  | cons x m =>
    have : x = c := by
      have := List.isPrefixOf_iff_prefix.1 hp
      exact (List.cons_prefix_cons.1 this).1
    simp [this]

/-- The first mark that stands at the head. -/
theorem find_marks (c : UInt8) (r : List UInt8) :
    marksM.find? (fun m => m.data.toList.isPrefixOf (c :: r)) = if hasS (c.toNat : Int) 8 = true then some ⟨((c :: r).take (markN (c :: r))).toArray⟩ else none := by
  rw [marks_parts, List.find?_append, List.find?_map, List.find?_map]
  have e2 : ((fun m : ByteArray => m.data.toList.isPrefixOf (c :: r)) ∘ fun x : UInt8 => (⟨#[x]⟩ : ByteArray)) = fun x => x == c := by
    funext x
    simp [List.isPrefixOf]
  have e1 : ((fun m : ByteArray => m.data.toList.isPrefixOf (c :: r)) ∘ fun m : List UInt8 => (⟨m.toArray⟩ : ByteArray)) = fun m => m.isPrefixOf (c :: r) := by
    funext m
    simp
  rw [e1, e2]
  cases ht : twosL.any (fun m => m.isPrefixOf (c :: r)) with
  | true =>
    have h8 := twos_one ht
    rw [if_pos h8]
    obtain ⟨m, hm⟩ : ∃ m, twosL.find? (fun m => m.isPrefixOf (c :: r)) = some m := by
      cases hf : twosL.find? (fun m => m.isPrefixOf (c :: r)) with
      | some m => exact ⟨m, rfl⟩
      | none =>
        rw [List.find?_eq_none] at hf
        obtain ⟨m, hm, hp⟩ := List.any_eq_true.1 ht
        exact absurd hp (hf m hm)
    have hp := List.find?_some hm
    have hl := twos_len m (List.mem_of_find?_eq_some hm)
    have hpre := List.prefix_iff_eq_take.1 (List.isPrefixOf_iff_prefix.1 hp)
    rw [hm]
    have hmk : markN (c :: r) = 2 := by unfold markN; rw [if_pos ht]
    rw [hmk, ← hl, ← hpre]
    rfl
  | false =>
    have hn : twosL.find? (fun m => m.isPrefixOf (c :: r)) = none := by
      rw [List.find?_eq_none]
      intro m hm hp
      have : twosL.any (fun m => m.isPrefixOf (c :: r)) = true := List.any_eq_true.2 ⟨m, hm, hp⟩
      rw [ht] at this; cases this
    rw [hn]
    have hmk : markN (c :: r) = 1 := by unfold markN; rw [if_neg (by rw [ht]; decide)]
    rw [hmk]
    have h8 := ones_has c
    cases h : hasS (c.toNat : Int) 8 with
    | true =>
      rw [h] at h8
      have hmem : c ∈ onesL := List.contains_iff_mem.1 h8
      obtain ⟨x, hx⟩ : ∃ x, onesL.find? (fun x => x == c) = some x := by
        cases hf : onesL.find? (fun x => x == c) with
        | some x => exact ⟨x, rfl⟩
        | none =>
          rw [List.find?_eq_none] at hf
          exact absurd (beq_self_eq_true c) (hf c hmem)
      have hxc : x = c := by simpa using List.find?_some hx
      rw [hx, hxc]
      rfl
    | false =>
      have hf : onesL.find? (fun x => x == c) = none := by
        rw [List.find?_eq_none]
        intro x hx hxc
        have : x = c := by simpa using hxc
        rw [this] at hx
        rw [List.contains_iff_mem.2 hx, h] at h8
        cases h8
      rw [hf]
      rfl

/-- What a mark that was found, or none, makes. -/
def markT (p : Nat) (l : Int) : Option ByteArray → T7
  | some m => (3, (p : Int), l, m, 0, 0, 0)
  | none => (0, (p : Int), l, (⟨#[]⟩ : ByteArray), 0, 7, (p : Int))
theorem find_yes {P : ByteArray → Bool} {m : ByteArray} {L : List ByteArray} (h : P m = true) : (m :: L).find? P = some m := by rw [List.find?_cons, h]
theorem find_no {P : ByteArray → Bool} {m : ByteArray} {L : List ByteArray} (h : P m = false) : (m :: L).find? P = L.find? P := by rw [List.find?_cons, h]

set_option maxHeartbeats 1000000 in
theorem marks_ev (s : ByteArray) (hs : s.size ≤ 1000000) (p : Nat) (l : Int) (R : List UInt8) (hR : s.data.toList.drop p = R) (hp : p ≤ s.size) (M : List ByteArray) (hM : M.length ≤ 1000) (hM2 : ∀ m ∈ M, m.size ≤ 1000) : ∀ d i, M.length - i = d → i ≤ M.length →
    Ev (fun k => ploverref02_one.l1 k s p M i 0 p l ⟨#[]⟩ 0) (markT p l ((M.drop i).find? (fun m => m.data.toList.isPrefixOf R))) := by
  have eL : s.data.toList.length = s.size := rfl
  have hlen : R.length = s.size - p := by rw [← hR, List.length_drop]; omega
  intro d
  induction d with
  | zero =>
    intro i hd hi
    rw [List.drop_of_length_le (by omega), List.find?_nil]
    refine Ev.step (f := fun k => some ((0, (p : Int), l, (⟨#[]⟩ : ByteArray), 0, 7, (p : Int)) : T7)) (fun k => ?_) (Ev.now _)
    simp only [ploverref02_one.l1]
    rw [if_neg (by omega)]
  | succ d ih =>
    intro i hd hi
    have hlt : i < M.length := by omega
    have hdr : M.drop i = M[i] :: M.drop (i + 1) := List.drop_eq_getElem_cons hlt
    have hrd : rdOf ByteArray.empty M (i : Int) = M[i] := by
      unfold rdOf
      rw [Int.toNat_natCast, List.getD, List.getElem?_eq_getElem hlt]; rfl
    have hm2 := hM2 M[i] (List.getElem_mem hlt)
    have ih' := ih (i + 1) (by omega) (by omega)
    rw [show (((i + 1 : Nat)) : Int) = (i : Int) + 1 by omega] at ih'
    rw [hdr]
    generalize M[i] = m at *
    have hw1 := Aside0.mk (show wrap64 ((i : Int) + 1) = (i : Int) + 1 from wr (by omega) (by omega))
    have hw2 := Aside0.mk (show wrap64 ((s.size : Int) - (p : Int)) = (s.size : Int) - (p : Int) from wr (by omega) (by omega))
    have hw3 := Aside0.mk (show wrap64 ((p : Int) + (m.size : Int)) = (p : Int) + (m.size : Int) from wr (by omega) (by omega))
    have hml : m.data.toList.length = m.size := rfl
    cases hpre : m.data.toList.isPrefixOf R with
    | true =>
      have hle := List.IsPrefix.length_le (List.isPrefixOf_iff_prefix.1 hpre)
      have htk := List.prefix_iff_eq_take.1 (List.isPrefixOf_iff_prefix.1 hpre)
      rw [find_yes (P := fun m => m.data.toList.isPrefixOf R) hpre]
      refine Ev.step (f := fun k => some ((3, (p : Int), l, m, 0, 0, 0) : T7)) (fun k => ?_) (Ev.now _)
      simp only [ploverref02_one.l1]
      rw [if_pos (by omega), if_pos (by omega), hrd, hw2.out, hw3.out, if_pos (by omega), if_pos (by omega), if_pos (by omega), if_pos (by omega), if_pos]
      rw [Lib.toList_data, Lib.toList_data, Int.toNat_natCast, show ((p : Int) + (m.size : Int)).toNat = p + m.size by omega, extract_take, hR, ← hml, ← htk]
    | false =>
      rw [find_no (P := fun m => m.data.toList.isPrefixOf R) hpre]
      refine Ev.step (fun k => ?_) ih'
      simp only [ploverref02_one.l1]
      rw [if_pos (by omega), if_pos (by omega), hrd, hw1.out, hw2.out, hw3.out]
      by_cases hsz : (s.size : Int) - (p : Int) ≥ (m.size : Int)
      · rw [if_pos hsz, if_pos (by omega), if_pos (by omega), if_pos (by omega), if_neg]
        rw [Lib.toList_data, Lib.toList_data, Int.toNat_natCast, show ((p : Int) + (m.size : Int)).toNat = p + m.size by omega, extract_take, hR]
        intro e
        have : m.data.toList.isPrefixOf R = true := List.isPrefixOf_iff_prefix.2 (by rw [← e]; exact List.take_prefix _ _)
        rw [hpre] at this; cases this
      · rw [if_neg hsz]
theorem marks_len : marksM.length ≤ 1000 ∧ ∀ m ∈ marksM, m.size ≤ 1000 := by decide +kernel

/-- A token as it stands in a text. -/
def oneT (s : ByteArray) (p : Nat) : T7 := match oneL (s.data.toList.drop p) with
  | .tok k m n => (k, (p : Int), ((1 + nls (s.data.toList.take p) : Nat) : Int), ⟨((s.data.toList.drop p).take m).toArray⟩, n, 0, 0)
  | .bad c o => (0, (p : Int), ((1 + nls (s.data.toList.take p) : Nat) : Int), ⟨#[]⟩, 0, c, ((p + o : Nat) : Int))

theorem ext_take (s : ByteArray) (p m : Nat) : s.extract p (p + m) = ⟨((s.data.toList.drop p).take m).toArray⟩ := by
  have h := extract_take s p m
  rw [show s.extract p (p + m) = ⟨(s.extract p (p + m)).data⟩ from rfl]
  congr 1
  exact Array.toList_inj.1 (by rw [h, List.toList_toArray])

theorem dig10 : ∀ n : Nat, n < 256 → hasS (n : Int) 4 = true → stopB 10 n = false := by decide +kernel
theorem tail_at {s : ByteArray} {p : Nat} {R : List UInt8} (h : s.data.toList.drop p = R) : tailAt s (p + nLen R) = nTail R := by
  unfold tailAt nTail
  rw [← h, List.getElem?_drop]
  rfl

set_option maxHeartbeats 4000000 in
theorem one_ev (s : ByteArray) (hs : s.size ≤ 1000000) (p : Nat) (c : UInt8) (r : List UInt8) (hR : s.data.toList.drop p = c :: r) : Ev (fun k => ploverref02_one.f k s p) (oneT s p) := by
  have eL : s.data.toList.length = s.size := rfl
  obtain ⟨h1, h2, h3⟩ := bt_of hR
  have hp : p ≤ s.size := by omega
  have hline := refLine_ev s (p : Int) hs
  have hll : lineL s.data.toList (p : Int) = ((1 + nls (s.data.toList.take p) : Nat) : Int) := by
    rw [lineL, Int.toNat_natCast]; omega
  rw [hll] at hline
  generalize hl : ((1 + nls (s.data.toList.take p) : Nat) : Int) = l at *
  have hT : oneT s p = match oneL (c :: r) with
      | .tok k m n => ((k, (p : Int), l, ⟨((c :: r).take m).toArray⟩, n, 0, 0) : T7)
      | .bad c o => (0, (p : Int), l, ⟨#[]⟩, 0, c, ((p + o : Nat) : Int)) := by
    unfold oneT
    rw [hR, hl]
  rw [hT]
  unfold ploverref02_one.f
  refine Ev.bind (f := fun k t118 => (if (0 : Int) ≤ (p : Int) then (if (p : Int) < (s.size : Int) then ((ploverref02_Letter.f (bt s p)).bind fun t120 => (if t120 = true then (ploverref02_one.l0 k s p p 0 p t118 (⟨#[]⟩ : ByteArray) 0) else ((ploverref02_Digit.f (bt s p)).bind fun t123 => (if t123 = true then ((ploverref02_number.f k s p 10).bind fun bt124 => (if (bt s p) = 48 then (if (wrap64 ((p : Int) + 1)) < (s.size : Int) then (if 0 ≤ (wrap64 ((p : Int) + 1)) then (ploverref02_one.j1 k s p bt124.1 bt124.2 ((bt s (wrap64 ((p : Int) + 1))) == 120) 0 p t118 (⟨#[]⟩ : ByteArray) 0) else (none)) else (ploverref02_one.j1 k s p bt124.1 bt124.2 false 0 p t118 (⟨#[]⟩ : ByteArray) 0)) else (ploverref02_one.j1 k s p bt124.1 bt124.2 false 0 p t118 (⟨#[]⟩ : ByteArray) 0))) else ((ploverref02_Marks.f).bind fun t130 => (ploverref02_one.l1 k s p t130 0 0 p t118 (⟨#[]⟩ : ByteArray) 0)))))) else (none)) else (none))) hline ?_
  cases h22 : hasS (c.toNat : Int) 2 with
  | true =>
    refine Ev.congr (f := fun k => ploverref02_one.l0 k s p p 0 p l ⟨#[]⟩ 0) (fun k => by rw [if_pos (by omega), if_pos h1, h2, letter_f, h22]; rfl) ?_
    have := name_ev s hs p l _ (c :: r) p (Nat.le_refl _) hR (Nat.le_refl _) hp
    rw [show p + whileN 6 (c :: r) - p = whileN 6 (c :: r) by omega] at this
    simp only [oneL]
    rw [if_pos h22]
    by_cases h16 : 16 < whileN 6 (c :: r)
    · rw [if_pos h16] at this ⊢
      exact this
    · rw [if_neg h16] at this ⊢
      rw [ext_take, hR] at this
      exact this
  | false =>
    cases h44 : hasS (c.toNat : Int) 4 with
    | true =>
      have hn22 : ¬ hasS (c.toNat : Int) 2 = true := by rw [h22]; decide
      simp only [oneL]
      rw [if_neg hn22, if_pos h44]
      have hd1 : 1 ≤ digN 10 (c :: r) := by
        unfold digN
        rw [List.takeWhile_cons, dig10 c.toNat c.toNat_lt h44]
        simp
      have hn10 := refNumber_ev s hs 10 (.inl rfl) p
      rw [hR, show (((10 : Nat)) : Int) = 10 from rfl] at hn10
      have hle := nLen_le (c :: r)
      have hlen : (c :: r).length = s.size - p := by rw [← hR, List.length_drop]; omega
      have hw1 := Aside0.mk (show wrap64 ((p : Int) + 1) = (p : Int) + 1 from wr (by omega) (by omega))
      have hw2 := Aside0.mk (show wrap64 ((p : Int) + 2) = (p : Int) + 2 from wr (by omega) (by omega))
      have htl := tail_at hR
      cases hx : hxB (c :: r) with
      | true =>
        obtain ⟨r2, hr2⟩ := List.isPrefixOf_iff_prefix.1 hx
        obtain ⟨rfl, rfl⟩ : c = 48 ∧ r = 120 :: r2 := by
          have : (48 : UInt8) :: 120 :: r2 = c :: r := hr2
          injection this with e1 e2
          exact ⟨e1.symm, e2.symm⟩
        obtain ⟨k1, k2, k3⟩ := bt_of h3
        rw [show (((p + 1 : Nat)) : Int) = (p : Int) + 1 by omega] at k1 k2
        have hn16 := refNumber_ev s hs 16 (.inr rfl) (p + 2)
        rw [show s.data.toList.drop (p + 2) = r2 from k3, show (((16 : Nat)) : Int) = 16 from rfl] at hn16
        have hnh : nHead (48 :: 120 :: r2) = 2 := by unfold nHead; rw [if_pos hx]
        have hnd : nDig (48 :: 120 :: r2) = digN 16 r2 := by unfold nDig nBase; rw [hnh, if_pos hx]; rfl
        have hnl : nLen (48 :: 120 :: r2) = 2 + digN 16 r2 := by unfold nLen; rw [hnh, hnd]
        have hnv : nVal (48 :: 120 :: r2) = valN 16 0 (r2.take (digN 16 r2)) := by unfold nVal; rw [hnh, hnd]; unfold nBase; rw [if_pos hx]; rfl
        rw [hnd, hnl, hnv]
        rw [hnl] at htl hle
        refine Ev.congr (f := fun k => (ploverref02_number.f k s p 10).bind fun bt124 => ploverref02_one.j1 k s p bt124.1 bt124.2 true 0 p l (⟨#[]⟩ : ByteArray) 0) (fun k => by
          rw [if_pos (by omega), if_pos h1, h2, letter_f, h22, digit_f, h44]
          simp only [Option.bind_some]
          rw [if_neg (by decide), if_pos trivial, hw1.out]
          congr 1
          funext bt124
          rw [if_pos (show (((48 : UInt8).toNat : Nat) : Int) = 48 from rfl), if_pos k1, if_pos (by omega), k2]
          rfl) ?_
        refine Ev.bind (f := fun k (bt124 : Int × Int) => ploverref02_one.j1 k s p bt124.1 bt124.2 true 0 p l (⟨#[]⟩ : ByteArray) 0) hn10 ?_
        refine Ev.step (f := fun k => (ploverref02_number.f k s ((p : Int) + 2) 16).bind fun bt126 => (if bt126.2 = (p : Int) + 2 then (some ((0, (p : Int), l, (⟨#[]⟩ : ByteArray), 0, 7, bt126.2) : T7)) else (ploverref02_one.j2 k s p bt126.1 bt126.2 0 p l (⟨#[]⟩ : ByteArray) 0))) (fun k => by
          simp only [ploverref02_one.j1]
          rw [if_pos trivial, hw2.out]) ?_
        rw [show (((p + 2 : Nat)) : Int) = (p : Int) + 2 by omega] at hn16
        refine Ev.bind (f := fun k (bt126 : Int × Int) => (if bt126.2 = (p : Int) + 2 then (some ((0, (p : Int), l, (⟨#[]⟩ : ByteArray), 0, 7, bt126.2) : T7)) else (ploverref02_one.j2 k s p bt126.1 bt126.2 0 p l (⟨#[]⟩ : ByteArray) 0))) hn16 ?_
        dsimp only
        by_cases h0 : digN 16 r2 = 0
        · rw [if_pos h0, h0]
          refine Ev.congr (f := fun k => some ((0, (p : Int), l, (⟨#[]⟩ : ByteArray), 0, 7, ((p + (2 + 0) : Nat) : Int)) : T7)) (fun k => by rw [if_pos (by omega)]) (Ev.now _)
        · rw [if_neg h0]
          have hj := j2_ev s p (p + 2 + digN 16 r2) (valN 16 0 (r2.take (digN 16 r2))) l (by omega) (by omega)
          refine Ev.congr (fun k => by rw [if_neg (by omega)]) ?_
          by_cases hv : 4294967296 ≤ valN 16 0 (r2.take (digN 16 r2))
          · rw [if_pos hv] at hj ⊢
            exact hj
          · rw [if_neg hv] at hj ⊢
            rw [show p + (2 + digN 16 r2) = p + 2 + digN 16 r2 by omega] at htl
            rw [htl] at hj
            by_cases ht : nTail (48 :: 120 :: r2) = true
            · rw [if_pos ht] at hj ⊢
              rw [show p + 2 + digN 16 r2 = p + (2 + digN 16 r2) by omega] at hj ⊢
              exact hj
            · rw [if_neg ht] at hj ⊢
              rw [show p + 2 + digN 16 r2 = p + (2 + digN 16 r2) by omega] at hj ⊢
              rw [ext_take, hR] at hj
              exact hj
      | false =>
        have hnx : ¬ hxB (c :: r) = true := by rw [hx]; decide
        have hnh : nHead (c :: r) = 0 := by unfold nHead; rw [if_neg hnx]
        have hnd : nDig (c :: r) = digN 10 (c :: r) := by unfold nDig nBase; rw [hnh, if_neg hnx]; rfl
        have hnl : nLen (c :: r) = digN 10 (c :: r) := by unfold nLen; rw [hnh, hnd, Nat.zero_add]
        have hnv : nVal (c :: r) = valN 10 0 ((c :: r).take (digN 10 (c :: r))) := by unfold nVal; rw [hnh, hnd]; unfold nBase; rw [if_neg hnx]; rfl
        rw [hnd, hnl, hnv, if_neg (by omega)]
        rw [hnl] at htl hle
        refine Ev.congr (f := fun k => (ploverref02_number.f k s p 10).bind fun bt124 => ploverref02_one.j1 k s p bt124.1 bt124.2 false 0 p l (⟨#[]⟩ : ByteArray) 0) (fun k => by
          rw [if_pos (by omega), if_pos h1, h2, letter_f, h22, digit_f, h44]
          simp only [Option.bind_some]
          rw [if_neg (by decide), if_pos trivial, hw1.out]
          congr 1
          funext bt124
          by_cases h48 : (c.toNat : Int) = 48
          · rw [if_pos h48]
            have hc : c = 48 := UInt8.toNat_inj.1 (show c.toNat = 48 by omega)
            cases r with
            | nil =>
              have := end_of (p := p + 1) h3
              rw [if_neg (by omega)]
            | cons x r =>
              obtain ⟨k1, k2, k3⟩ := bt_of (p := p + 1) h3
              rw [show (((p + 1 : Nat)) : Int) = (p : Int) + 1 by omega] at k1 k2
              rw [if_pos k1, if_pos (by omega), k2]
              have hxn : ((x.toNat : Int) == 120) = false := by
                rw [beq_eq_false_iff_ne]
                intro e
                have hxx : x = 120 := UInt8.toNat_inj.1 (show x.toNat = 120 by omega)
                subst hc hxx
                exact hnx rfl
              rw [hxn]
          · rw [if_neg h48]) ?_
        refine Ev.bind (f := fun k (bt124 : Int × Int) => ploverref02_one.j1 k s p bt124.1 bt124.2 false 0 p l (⟨#[]⟩ : ByteArray) 0) hn10 ?_
        refine Ev.step (f := fun k => ploverref02_one.j2 k s p _ _ 0 p l (⟨#[]⟩ : ByteArray) 0) (fun k => by
          simp only [ploverref02_one.j1]
          rw [if_neg (by decide)]) ?_
        have hj := j2_ev s p (p + digN 10 (c :: r)) (valN 10 0 ((c :: r).take (digN 10 (c :: r)))) l (by omega) (by omega)
        by_cases hv : 4294967296 ≤ valN 10 0 ((c :: r).take (digN 10 (c :: r)))
        · rw [if_pos hv] at hj ⊢
          exact hj
        · rw [if_neg hv] at hj ⊢
          rw [htl] at hj
          by_cases ht : nTail (c :: r) = true
          · rw [if_pos ht] at hj ⊢
            exact hj
          · rw [if_neg ht] at hj ⊢
            rw [ext_take, hR] at hj
            exact hj
    | false =>
      have hn22 : ¬ hasS (c.toNat : Int) 2 = true := by rw [h22]; decide
      have hn44 : ¬ hasS (c.toNat : Int) 4 = true := by rw [h44]; decide
      simp only [oneL]
      rw [if_neg hn22, if_neg hn44]
      refine Ev.congr (f := fun k => ploverref02_one.l1 k s p marksM 0 0 p l ⟨#[]⟩ 0) (fun k => by
        rw [if_pos (by omega), if_pos h1, h2, letter_f, h22, digit_f, h44, marks_some]; rfl) ?_
      have hm := marks_ev s hs p l (c :: r) hR hp marksM marks_len.1 marks_len.2 marksM.length 0 (by omega) (Nat.zero_le _)
      rw [List.drop_zero, find_marks] at hm
      by_cases h8 : hasS (c.toNat : Int) 8 = true
      · rw [if_pos h8] at hm ⊢
        exact hm
      · rw [if_neg h8] at hm ⊢
        exact hm

/-! ### the whole -/
/-- What the document's lexer gives. -/
def refT (acc : List S31) (r : List Tok × Option (Int × Int)) : List S31 × Int × Int := match r.2 with
  | some (c, q) => ([], c, q)
  | none => (acc ++ r.1.map Tok.s, 0, 0)
theorem bad_code {R : List UInt8} {c : Int} {o : Nat} (h : oneL R = .bad c o) : c ≠ 0 := by
  cases R with
  | nil => simp [oneL] at h; omega
  | cons x r =>
    simp only [oneL] at h
    by_cases h2 : hasS (x.toNat : Int) 2 = true
    · rw [if_pos h2] at h
      by_cases h16 : 16 < whileN 6 (x :: r)
      · rw [if_pos h16] at h; cases h; decide
      · rw [if_neg h16] at h; cases h
    · rw [if_neg h2] at h
      by_cases h4 : hasS (x.toNat : Int) 4 = true
      · rw [if_pos h4] at h
        by_cases e1 : nDig (x :: r) = 0
        · rw [if_pos e1] at h; cases h; decide
        · rw [if_neg e1] at h
          by_cases e2 : 4294967296 ≤ nVal (x :: r)
          · rw [if_pos e2] at h; cases h; decide
          · rw [if_neg e2] at h
            by_cases e3 : nTail (x :: r) = true
            · rw [if_pos e3] at h; cases h; decide
            · rw [if_neg e3] at h; cases h
      · rw [if_neg h4] at h
        by_cases h8 : hasS (x.toNat : Int) 8 = true
        · rw [if_pos h8] at h; cases h
        · rw [if_neg h8] at h; cases h; decide

set_option maxHeartbeats 4000000 in
theorem lex_ev (s : ByteArray) (hs : s.size ≤ 20000) : ∀ (n : Nat) (R : List UInt8) (p : Nat) (acc : List S31), R.length ≤ n → s.data.toList.drop p = R → p ≤ s.size → acc.length ≤ p →
    Ev (fun k => ploverref02_Lex.l0 k s acc p) (refT acc (lexA R p (1 + nls (s.data.toList.take p)))) := by
  have eL : s.data.toList.length = s.size := rfl
  have hst : ∀ (p : Nat) (acc : List S31), s.data.toList.drop p = [] → p ≤ s.size → acc.length ≤ p → Ev (fun k => ploverref02_Lex.l0 k s acc p) (refT acc (lexA [] p (1 + nls (s.data.toList.take p)))) := by
    intro p acc h hp hacc
    have h1 := end_of h
    obtain rfl : p = s.size := by omega
    have hline := refLine_ev s (s.size : Int) (by omega)
    have hll : lineL s.data.toList (s.size : Int) = ((1 + nls (s.data.toList.take s.size) : Nat) : Int) := by
      rw [lineL, Int.toNat_natCast]; omega
    rw [hll] at hline
    refine Ev.step (f := fun k => (ploverref02_Line.f k s (s.size : Int)).bind fun t136 => (if acc.length < 2932031007402 then (some ((acc ++ [(⟨0, (s.size : Int), t136, (⟨#[]⟩ : ByteArray), 0⟩ : S31)]), 0, 0)) else (none))) (fun k => by
      simp only [ploverref02_Lex.l0]
      rw [if_neg h1]) ?_
    refine Ev.bind (f := fun k t136 => (if acc.length < 2932031007402 then (some ((acc ++ [(⟨0, (s.size : Int), t136, (⟨#[]⟩ : ByteArray), 0⟩ : S31)]), (0 : Int), (0 : Int))) else (none))) hline ?_
    refine Ev.congr (fun k => by rw [if_pos (by omega)]) ?_
    exact Ev.now _
  intro n
  induction n with
  | zero =>
    intro R p acc hn h hp hacc
    obtain rfl := List.length_eq_zero_iff.1 (show R.length = 0 by omega)
    exact hst p acc h hp hacc
  | succ n ih =>
    intro R p acc hn h hp hacc
    cases R with
    | nil => exact hst p acc h hp hacc
    | cons c r =>
      obtain ⟨h1, h2, h3⟩ := bt_of h
      have hone := one_ev s (by omega) p c r h
      refine Ev.step (f := fun k => (ploverref02_one.f k s p).bind fun bt140 => (if bt140.2.2.2.2.2.1 = 0 then (if acc.length < 2932031007402 then ((ploverref02_between.f k s (wrap64 ((p : Int) + (bt140.2.2.2.1.size : Int)))).bind fun t152 => (ploverref02_Lex.l0 k s (acc ++ [(⟨bt140.1, bt140.2.1, bt140.2.2.1, bt140.2.2.2.1, bt140.2.2.2.2.1⟩ : S31)]) t152)) else (none)) else (some (([] : List (S31)), bt140.2.2.2.2.2.1, bt140.2.2.2.2.2.2)))) (fun k => by
        simp only [ploverref02_Lex.l0]
        rw [if_pos h1]) ?_
      refine Ev.bind (f := fun k (bt140 : T7) => (if bt140.2.2.2.2.2.1 = 0 then (if acc.length < 2932031007402 then ((ploverref02_between.f k s (wrap64 ((p : Int) + (bt140.2.2.2.1.size : Int)))).bind fun t152 => (ploverref02_Lex.l0 k s (acc ++ [(⟨bt140.1, bt140.2.1, bt140.2.2.1, bt140.2.2.2.1, bt140.2.2.2.2.1⟩ : S31)]) t152)) else (none)) else (some (([] : List (S31)), bt140.2.2.2.2.2.1, bt140.2.2.2.2.2.2)))) hone ?_
      cases ho : oneL (c :: r) with
      | bad e o =>
        have hT : oneT s p = (0, (p : Int), ((1 + nls (s.data.toList.take p) : Nat) : Int), ⟨#[]⟩, 0, e, ((p + o : Nat) : Int)) := by unfold oneT; rw [h, ho]
        rw [hT, lexA_bad (List.cons_ne_nil _ _) ho]
        refine Ev.congr (f := fun k => some (([] : List (S31)), e, ((p + o : Nat) : Int))) (fun k => by dsimp only; rw [if_neg (bad_code ho)]) ?_
        exact Ev.now _
      | tok k m nn =>
        obtain ⟨hm, hle⟩ := oneL_pos ho
        have hlen : (c :: r).length = s.size - p := by rw [← h, List.length_drop]; omega
        have hT : oneT s p = (k, (p : Int), ((1 + nls (s.data.toList.take p) : Nat) : Int), ⟨((c :: r).take m).toArray⟩, nn, 0, 0) := by unfold oneT; rw [h, ho]
        have hsz : (⟨((c :: r).take m).toArray⟩ : ByteArray).size = m := by
          show ((c :: r).take m).toArray.size = m
          rw [List.size_toArray, List.length_take]; omega
        rw [hT, lexA_tok ho]
        have hb := refBetween_ev s (by omega) (p + m)
        have hdrop : s.data.toList.drop (p + m) = (c :: r).drop m := drop_add h m
        rw [hdrop] at hb
        have hj := skipN_le false ((c :: r).drop m)
        rw [List.length_drop] at hj
        refine Ev.congr (f := fun k' => (ploverref02_between.f k' s ((p + m : Nat) : Int)).bind fun t152 => (ploverref02_Lex.l0 k' s (acc ++ [(⟨k, (p : Int), ((1 + nls (s.data.toList.take p) : Nat) : Int), ⟨((c :: r).take m).toArray⟩, nn⟩ : S31)]) t152)) (fun k' => by
          dsimp only
          rw [if_pos rfl, if_pos (by omega), hsz, wr (by omega) (by omega)]
          rfl) ?_
        refine Ev.bind (f := fun k' t152 => (ploverref02_Lex.l0 k' s (acc ++ [(⟨k, (p : Int), ((1 + nls (s.data.toList.take p) : Nat) : Int), ⟨((c :: r).take m).toArray⟩, nn⟩ : S31)]) t152)) hb ?_
        have ih' := ih (((c :: r).drop m).drop (skipN false ((c :: r).drop m))) (p + m + skipN false ((c :: r).drop m)) (acc ++ [(⟨k, (p : Int), ((1 + nls (s.data.toList.take p) : Nat) : Int), ⟨((c :: r).take m).toArray⟩, nn⟩ : S31)])
          (by rw [List.length_drop, List.length_drop]; omega) (by rw [← List.drop_drop, hdrop]) (by omega) (by rw [List.length_append, List.length_singleton]; omega)
        have hln : 1 + nls (s.data.toList.take (p + m + skipN false ((c :: r).drop m))) = 1 + nls (s.data.toList.take p) + nls ((c :: r).take m) + nls (((c :: r).drop m).take (skipN false ((c :: r).drop m))) := by
          rw [List.take_add, List.take_add, nls_app, nls_app, hdrop, h]
          omega
        rw [hln] at ih'
        generalize lexA (((c :: r).drop m).drop (skipN false ((c :: r).drop m))) (p + m + skipN false ((c :: r).drop m)) (1 + nls (s.data.toList.take p) + nls ((c :: r).take m) + nls (((c :: r).drop m).take (skipN false ((c :: r).drop m)))) = RR at ih' ⊢
        have e : refT (acc ++ [(⟨k, (p : Int), ((1 + nls (s.data.toList.take p) : Nat) : Int), ⟨((c :: r).take m).toArray⟩, nn⟩ : S31)]) RR = refT acc (⟨k, (p : Int), ((1 + nls (s.data.toList.take p) : Nat) : Int), ⟨((c :: r).take m).toArray⟩, nn⟩ :: RR.1, RR.2) := by
          unfold refT
          cases RR.2 with
          | none => simp [Tok.s]
          | some cp => rfl
        rw [e] at ih'
        exact ih'

theorem refLex_ev (s : ByteArray) (hs : s.size ≤ 20000) : Ev (fun k => ploverref02_Lex.f k s) ((lexT s).map Tok.s, (match lexF s with | some (c, _) => c | none => 0), (match lexF s with | some (_, q) => q | none => 0)) := by
  have hb := refBetween_ev s (by omega) 0
  rw [List.drop_zero, Nat.zero_add] at hb
  have hj := skipN_le false s.data.toList
  have eL : s.data.toList.length = s.size := rfl
  have hl := lex_ev s hs _ (s.data.toList.drop (skipN false s.data.toList)) (skipN false s.data.toList) [] (Nat.le_refl _) rfl (by omega) (Nat.zero_le _)
  rw [← lexL_A] at hl
  have e : refT [] (lexL s.data.toList) = ((lexT s).map Tok.s, (match lexF s with | some (c, _) => c | none => 0), (match lexF s with | some (_, q) => q | none => 0)) := by
    unfold lexT lexF refT
    rw [if_neg (by omega), if_neg (by omega)]
    cases (lexL s.data.toList).2 with
    | none => simp
    | some cp => rfl
  rw [e] at hl
  refine Ev.congr (f := fun k => (ploverref02_between.f k s 0).bind fun t135 => (ploverref02_Lex.l0 k s ([] : List (S31)) t135)) (fun k => by
    unfold ploverref02_Lex.f
    rw [if_neg (by omega)]) ?_
  exact Ev.bind (f := fun k t135 => (ploverref02_Lex.l0 k s ([] : List (S31)) t135)) hb hl

/-! ### comparing -/
theorem same_ev (l : List S31) (hl : l.length ≤ 1000000) : ∀ d i, l.length - i = d → i ≤ l.length → Ev (fun k => ploverref02_Same.l0 k l l (i : Nat)) true := by
  intro d
  induction d with
  | zero =>
    intro i hd hi
    exact Ev.step (f := fun k => some true) (fun k => by simp only [ploverref02_Same.l0]; rw [if_neg (by omega)]) (Ev.now _)
  | succ d ih =>
    intro i hd hi
    have ih' := ih (i + 1) (by omega) (by omega)
    rw [show (((i + 1 : Nat)) : Int) = (i : Int) + 1 by omega] at ih'
    refine Ev.step (fun k => ?_) ih'
    simp only [ploverref02_Same.l0]
    rw [if_pos (by omega), if_pos (by omega), if_pos (by omega), wr (by omega) (by omega), if_neg (by simp)]
theorem refSame_ev (l : List S31) (hl : l.length ≤ 1000000) : Ev (fun k => ploverref02_Same.f k l l) true := by
  refine Ev.congr (f := fun k => ploverref02_Same.l0 k l l ((0 : Nat) : Int)) (fun k => by unfold ploverref02_Same.f; rw [if_pos rfl]; rfl) ?_
  exact same_ev l hl _ 0 rfl (Nat.zero_le _)
end Go.Proofs.YtdlfjokhgmngcaaGreatDoor.Lx
