/- LexSorts: what the lexer's tokens are made of (no program in sight).
   The lexer as a Lean function: a token stands for itself (what stands behind it, if a blank comes first, is nothing to it); fuel; places moved; a text behind a line end. No program in sight.
   LexParts: of a text behind a line end. No program in sight.
   LexCovers: tokens rise and stand apart, and set one behind the other they are lexed to the same. No program in sight. -/
import Derived.Test.YtdlfjokhgmngcaaGreatDoorLexZ
import Derived.Test.YtdlfjokhgmngcaaGreatDoorPLexTellsx3
namespace Go.Proofs.YtdlfjokhgmngcaaGreatDoor.Lx
open Go.RowKit Go.Shelf Go.Proofs.YtdlfjokhgmngcaaGreatDoorW.PrintWords Go.Proofs.YtdlfjokhgmngcaaGreatDoor.PLexTells
set_option linter.unusedVariables false
set_option linter.unusedSimpArgs false

def isDig (c : UInt8) : Bool := hasS (c.toNat : Int) 4
def isLet (c : UInt8) : Bool := hasS (c.toNat : Int) 2
theorem has_num : ∀ c : Nat, c < 256 → hasS (c : Int) 4 = (decide (48 ≤ c) && decide (c ≤ 57)) ∧ hasS (c : Int) 6 = (hasS (c : Int) 2 || hasS (c : Int) 4) := by decide +kernel
set_option maxRecDepth 100000 in
theorem dig_f : ∀ c : Nat, c < 256 → ploverref02_Digit.f (c : Int) = some (hasS (c : Int) 4) := by decide +kernel
set_option maxRecDepth 100000 in
theorem let_f : ∀ c : Nat, c < 256 → ploverref02_Letter.f (c : Int) = some (hasS (c : Int) 2) := by decide +kernel

/-- What a token is made of. -/
structure Fine (x : Tok) : Prop where
  num : x.k = 2 → 0 ≤ x.n ∧ x.n < 4294967296 ∧ ∃ c r, x.t.data.toList = c :: r ∧ isDig c = true
  name : x.k = 1 → x.t.size ≤ 16 ∧ (∃ c r, x.t.data.toList = c :: r ∧ isLet c = true) ∧ ∀ c ∈ x.t.data.toList, isLet c = true ∨ isDig c = true

theorem takeWhile_take {p : UInt8 → Bool} (l : List UInt8) : l.take (l.takeWhile p).length = l.takeWhile p := by
  have h := List.takeWhile_append_dropWhile (p := p) (l := l)
  conv => lhs; rw [← h]
  rw [List.take_append_of_le_length (by rw [h]; exact Nat.le_refl _), h]
  simp

theorem takeWhile_all {p : UInt8 → Bool} (l : List UInt8) : ∀ d ∈ l.takeWhile p, p d = true := fun d hd => List.all_eq_true.1 List.all_takeWhile d hd

set_option maxHeartbeats 1600000 in
theorem fine_one {R : List UInt8} {k n : Int} {m : Nat} (p l : Int) (h : oneL R = .tok k m n) : Fine ⟨k, p, l, ⟨(R.take m).toArray⟩, n⟩ := by
  cases R with
  | nil => simp [oneL] at h
  | cons c r =>
    simp only [oneL] at h
    by_cases h2 : hasS (c.toNat : Int) 2 = true
    · rw [if_pos h2] at h
      by_cases h16 : 16 < whileN 6 (c :: r)
      · rw [if_pos h16] at h; cases h
      · rw [if_neg h16] at h
        cases h
        refine ⟨fun e => by simp at e, fun _ => ?_⟩
        have hw := whileN_pos (r := r) h2
        have hsz : ((c :: r).take (whileN 6 (c :: r))) = (c :: r).takeWhile fun c => hasS (c.toNat : Int) 6 := takeWhile_take _
        refine ⟨?_, ?_, ?_⟩
        · show ((c :: r).take (whileN 6 (c :: r))).length ≤ 16
          rw [List.length_take]; omega
        · obtain ⟨q, hq⟩ : ∃ q, whileN 6 (c :: r) = q + 1 := ⟨whileN 6 (c :: r) - 1, by omega⟩
          exact ⟨c, r.take q, by simp [hq], h2⟩
        · intro d hd
          have hd' : d ∈ (c :: r).take (whileN 6 (c :: r)) := by simpa using hd
          rw [hsz] at hd'
          have h6 : hasS (d.toNat : Int) 6 = true := takeWhile_all (p := fun c => hasS (c.toNat : Int) 6) (c :: r) d hd'
          rw [(has_num d.toNat d.toNat_lt).2] at h6
          exact Bool.or_eq_true_iff.1 h6
    · rw [if_neg h2] at h
      by_cases h4 : hasS (c.toNat : Int) 4 = true
      · rw [if_pos h4] at h
        by_cases e1 : nDig (c :: r) = 0
        · rw [if_pos e1] at h; cases h
        · rw [if_neg e1] at h
          by_cases e2 : 4294967296 ≤ nVal (c :: r)
          · rw [if_pos e2] at h; cases h
          · rw [if_neg e2] at h
            by_cases e3 : nTail (c :: r) = true
            · rw [if_pos e3] at h; cases h
            · rw [if_neg e3] at h
              cases h
              refine ⟨fun _ => ⟨by simp, by simp; omega, ?_⟩, fun e => by simp at e⟩
              obtain ⟨q, hq⟩ : ∃ q, nLen (c :: r) = q + 1 := ⟨nLen (c :: r) - 1, by unfold nLen; omega⟩
              exact ⟨c, r.take q, by simp [hq], h4⟩
      · rw [if_neg h4] at h
        by_cases h8 : hasS (c.toNat : Int) 8 = true
        · rw [if_pos h8] at h
          cases h
          exact ⟨fun e => by simp at e, fun e => by simp at e⟩
        · rw [if_neg h8] at h; cases h

theorem fine_G : ∀ (f : Nat) (R : List UInt8) (p l : Nat), ∀ x ∈ (lexG f R p l).1, Fine x
  | 0, R, p, l => by intro x hx; simp [lexG] at hx
  | f + 1, R, p, l => by
    intro x hx
    unfold lexG at hx
    by_cases h0 : R = []
    · rw [if_pos h0] at hx
      simp only [List.mem_singleton] at hx
      subst hx
      exact ⟨fun e => by simp at e, fun e => by simp at e⟩
    · rw [if_neg h0] at hx
      cases ho : oneL R with
      | bad c o => rw [ho] at hx; simp at hx
      | tok k m n =>
        rw [ho] at hx
        simp only [List.mem_cons] at hx
        rcases hx with rfl | hx
        · exact fine_one _ _ ho
        · exact fine_G f _ _ _ x hx
theorem fine_L (s : List UInt8) : ∀ x ∈ (lexL s).1, Fine x := fine_G _ _ _ _
theorem fine_T (s : ByteArray) : ∀ x ∈ lexT s, Fine x := by
  intro x hx
  unfold lexT at hx
  split at hx
  · simp at hx
  · split at hx
    · simp at hx
    · exact fine_L _ x hx

/-- One byte's text. -/
def blanksB (c : UInt8) : Bool := c == 32 || c == 9 || c == 10
def marksB : List UInt8 := [123, 125, 40, 41, 91, 93, 59, 58, 44, 46, 61, 60, 62, 43, 45, 42, 47, 37, 38, 94, 124, 126, 33]
def tokB (c : UInt8) : Bool := isLet c || isDig c || marksB.contains c
def one1 (c : UInt8) : Bool :=
  if blanksB c then lexF ⟨#[c]⟩ == none && (lexT ⟨#[c]⟩).length == 1
  else if tokB c then lexF ⟨#[c]⟩ == none && (lexT ⟨#[c]⟩).length == 2 && ((lexT ⟨#[c]⟩).head?.map fun x => x.t.data.toList) == some [c]
  else lexF ⟨#[c]⟩ == some (7, 0)
set_option maxRecDepth 100000 in
theorem one1_all : ∀ n : Nat, n < 256 → one1 (UInt8.ofNat n) = true := by decide +kernel
theorem one1_any (c : UInt8) : one1 c = true := by
  have := one1_all c.toNat c.toNat_lt
  rwa [UInt8.ofNat_toNat] at this
end Go.Proofs.YtdlfjokhgmngcaaGreatDoor.Lx

/-! The lexer as a Lean function: a token stands for itself (what stands behind it, if a blank comes first, is nothing to it); fuel; places moved; a text behind a line end. No program in sight. -/
namespace Go.Proofs.YtdlfjokhgmngcaaGreatDoor.Lx
open Go.RowKit Go.Shelf Go.Proofs.YtdlfjokhgmngcaaGreatDoorW.PrintWords
set_option linter.unusedVariables false
set_option linter.unusedSimpArgs false

/-- A byte that may stand between tokens. -/
def blk (c : UInt8) : Bool := hasS (c.toNat : Int) 1
set_option maxRecDepth 100000 in
theorem blank_none : ∀ n : Nat, n < 256 → hasS (n : Int) 1 = true → hasS (n : Int) 2 = false ∧ hasS (n : Int) 4 = false ∧ hasS (n : Int) 6 = false ∧ hasS (n : Int) 8 = false ∧ stopB 10 n = true ∧ stopB 16 n = true ∧ n ≠ 48 ∧ n ≠ 120 ∧ n ≠ 60 ∧ n ≠ 61 ∧ n ≠ 62 ∧ n ≠ 47 := by decide +kernel
theorem blk_none {c : UInt8} (h : blk c = true) : hasS (c.toNat : Int) 2 = false ∧ hasS (c.toNat : Int) 4 = false ∧ hasS (c.toNat : Int) 6 = false ∧ hasS (c.toNat : Int) 8 = false ∧ stopB 10 c.toNat = true ∧ stopB 16 c.toNat = true ∧ c ≠ 48 ∧ c ≠ 120 ∧ c ≠ 60 ∧ c ≠ 61 ∧ c ≠ 62 ∧ c ≠ 47 := by
  obtain ⟨h1, h2, h3, h4, h5, h6, h7, h8, h9, h10, h11, h12⟩ := blank_none c.toNat c.toNat_lt h
  exact ⟨h1, h2, h3, h4, h5, h6, fun e => h7 (by rw [e]; rfl), fun e => h8 (by rw [e]; rfl), fun e => h9 (by rw [e]; rfl), fun e => h10 (by rw [e]; rfl), fun e => h11 (by rw [e]; rfl), fun e => h12 (by rw [e]; rfl)⟩

/-- What comes behind begins with such a byte, or there is nothing. -/
def Gap (Y : List UInt8) : Prop := ∀ y, Y.head? = some y → blk y = true
theorem Gap.nil : Gap [] := fun y h => by simp at h
theorem Gap.cons {c : UInt8} {Y : List UInt8} (h : blk c = true) : Gap (c :: Y) := fun y hy => by
  simp only [List.head?_cons, Option.some.injEq] at hy
  rw [← hy]; exact h

theorem tw_app {p : UInt8 → Bool} : ∀ (X Y : List UInt8), (∀ y, Y.head? = some y → p y = false) → (X ++ Y).takeWhile p = X.takeWhile p
  | [], Y, h => by
    cases Y with
    | nil => rfl
    | cons y Y => rw [List.nil_append, List.takeWhile_cons, h y rfl]; rfl
  | x :: X, Y, h => by
    rw [List.cons_append, List.takeWhile_cons, List.takeWhile_cons, tw_app X Y h]

theorem while_app {m : Int} (hm : m = 2 ∨ m = 4 ∨ m = 6 ∨ m = 8) (X Y : List UInt8) (h : Gap Y) : whileN m (X ++ Y) = whileN m X := by
  unfold whileN
  rw [tw_app]
  intro y hy
  obtain ⟨h1, h2, h3, h4, _⟩ := blk_none (h y hy)
  rcases hm with rfl | rfl | rfl | rfl
  · exact h1
  · exact h2
  · exact h3
  · exact h4
theorem dig_app {b : Int} (hb : b = 10 ∨ b = 16) (X Y : List UInt8) (h : Gap Y) : digN b (X ++ Y) = digN b X := by
  unfold digN
  rw [tw_app]
  intro y hy
  obtain ⟨_, _, _, _, h5, h6, _⟩ := blk_none (h y hy)
  rcases hb with rfl | rfl
  · rw [h5]; rfl
  · rw [h6]; rfl
theorem hxB_app (X Y : List UInt8) (h : Gap Y) : hxB (X ++ Y) = hxB X := by
  unfold hxB
  match X with
  | [] =>
    cases Y with
    | nil => rfl
    | cons y Y =>
      obtain ⟨_, _, _, _, _, _, h7, _⟩ := blk_none (h y rfl)
      have : (48 == y) = false := beq_eq_false_iff_ne.2 (fun e => h7 e.symm)
      simp [List.isPrefixOf, this]
  | [a] =>
    cases Y with
    | nil => rfl
    | cons y Y =>
      obtain ⟨_, _, _, _, _, _, _, h8, _⟩ := blk_none (h y rfl)
      have : (120 == y) = false := beq_eq_false_iff_ne.2 (fun e => h8 e.symm)
      simp [List.isPrefixOf, this]
  | a :: b :: X => simp [List.isPrefixOf]
theorem hx_len {X : List UInt8} (h : hxB X = true) : 2 ≤ X.length := by
  obtain ⟨r, rfl⟩ := List.isPrefixOf_iff_prefix.1 h
  simp
theorem nBase_or (X : List UInt8) : ((nBase X : Nat) : Int) = 10 ∨ ((nBase X : Nat) : Int) = 16 := by
  unfold nBase; split
  · exact .inr rfl
  · exact .inl rfl
theorem digN_le (b : Int) (l : List UInt8) : digN b l ≤ l.length := by
  unfold digN; exact List.Sublist.length_le (List.takeWhile_sublist _)
theorem nHead_app (X Y : List UInt8) (h : Gap Y) : nHead (X ++ Y) = nHead X := by unfold nHead; rw [hxB_app X Y h]
theorem nBase_app (X Y : List UInt8) (h : Gap Y) : nBase (X ++ Y) = nBase X := by unfold nBase; rw [hxB_app X Y h]
theorem drop_app (X Y : List UInt8) : (X ++ Y).drop (nHead X) = X.drop (nHead X) ++ Y := List.drop_append_of_le_length (nHead_le X)
theorem nDig_app (X Y : List UInt8) (h : Gap Y) : nDig (X ++ Y) = nDig X := by
  unfold nDig
  rw [nHead_app X Y h, nBase_app X Y h, drop_app, dig_app (nBase_or X) _ _ h]
theorem nLen_app (X Y : List UInt8) (h : Gap Y) : nLen (X ++ Y) = nLen X := by unfold nLen; rw [nHead_app X Y h, nDig_app X Y h]
theorem nDig_le (X : List UInt8) : nDig X ≤ (X.drop (nHead X)).length := digN_le _ _
theorem nVal_app (X Y : List UInt8) (h : Gap Y) : nVal (X ++ Y) = nVal X := by
  unfold nVal
  rw [nHead_app X Y h, nBase_app X Y h, nDig_app X Y h, drop_app, List.take_append_of_le_length (nDig_le X)]
theorem nTail_app (X Y : List UInt8) (h : Gap Y) : nTail (X ++ Y) = nTail X := by
  unfold nTail
  rw [nLen_app X Y h]
  rcases Nat.lt_or_eq_of_le (nLen_le X) with h1 | h1
  · rw [List.getElem?_append_left h1]
  · rw [List.getElem?_append_right (by omega), h1, Nat.sub_self, List.getElem?_eq_none (Nat.le_refl X.length)]
    cases Y with
    | nil => rfl
    | cons y Y => exact (blk_none (h y rfl)).2.2.1
theorem two_head {x y : UInt8} {L : List UInt8} (h : twosL.any (fun m => m.isPrefixOf (x :: y :: L)) = true) : y = 60 ∨ y = 61 ∨ y = 62 := by
  simp [twosL, List.isPrefixOf] at h
  rcases h with ⟨_, h⟩ | ⟨_, h⟩ | ⟨_, h⟩ | ⟨_, h⟩ | ⟨_, h⟩ | ⟨_, h⟩ <;> simp [← h]
theorem two_first {x : UInt8} {L : List UInt8} (h : twosL.any (fun m => m.isPrefixOf (x :: L)) = true) : ∃ y M, L = y :: M := by
  cases L with
  | nil => simp [twosL, List.isPrefixOf] at h
  | cons y M => exact ⟨y, M, rfl⟩
theorem twos_app (X Y : List UInt8) (h0 : X ≠ []) (h : Gap Y) : twosL.any (fun m => m.isPrefixOf (X ++ Y)) = twosL.any (fun m => m.isPrefixOf X) := by
  match X with
  | [] => exact absurd rfl h0
  | [a] =>
    have h1 : twosL.any (fun m => m.isPrefixOf [a]) = false := by simp [twosL, List.isPrefixOf]
    rw [h1]
    cases Y with
    | nil => exact h1
    | cons y Y =>
      cases hh : twosL.any (fun m => m.isPrefixOf ([a] ++ y :: Y)) with
      | false => rfl
      | true =>
        obtain ⟨_, _, _, _, _, _, _, _, h9, h10, h11, _⟩ := blk_none (h y rfl)
        rcases two_head hh with e | e | e
        · exact absurd e h9
        · exact absurd e h10
        · exact absurd e h11
  | a :: b :: X => simp [twosL, List.isPrefixOf]
theorem mark_app (X Y : List UInt8) (h0 : X ≠ []) (h : Gap Y) : markN (X ++ Y) = markN X := by unfold markN; rw [twos_app X Y h0 h]

/-- What stands behind, a blank coming first, is nothing to the token. -/
theorem oneL_app (X Y : List UInt8) (h0 : X ≠ []) (h : Gap Y) : oneL (X ++ Y) = oneL X := by
  obtain ⟨c, r, rfl⟩ := List.exists_cons_of_ne_nil h0
  have e : c :: r ++ Y = c :: (r ++ Y) := rfl
  have w6 := while_app (m := 6) (.inr (.inr (.inl rfl))) (c :: r) Y h
  have d1 := nDig_app (c :: r) Y h
  have d2 := nVal_app (c :: r) Y h
  have d3 := nTail_app (c :: r) Y h
  have d4 := nLen_app (c :: r) Y h
  have d5 := mark_app (c :: r) Y h0 h
  rw [e] at w6 d1 d2 d3 d4 d5 ⊢
  simp only [oneL]
  rw [w6, d1, d2, d3, d4, d5]

theorem tw_tw {p : UInt8 → Bool} : ∀ l : List UInt8, (l.takeWhile p).takeWhile p = l.takeWhile p
  | [] => rfl
  | c :: l => by
    cases h : p c with
    | true => rw [List.takeWhile_cons, h]; simp only [if_true]; rw [List.takeWhile_cons, h]; simp only [if_true]; rw [tw_tw l]
    | false => rw [List.takeWhile_cons, h]; rfl
theorem oneL_pos {R : List UInt8} {k n : Int} {m : Nat} (h : oneL R = .tok k m n) : 1 ≤ m ∧ m ≤ R.length := by
  cases R with
  | nil => simp [oneL] at h
  | cons c r =>
    simp only [oneL] at h
    by_cases h2 : hasS (c.toNat : Int) 2 = true
    · rw [if_pos h2] at h
      by_cases h16 : 16 < whileN 6 (c :: r)
      · rw [if_pos h16] at h; cases h
      · rw [if_neg h16] at h
        cases h
        exact ⟨whileN_pos h2, List.Sublist.length_le (List.takeWhile_sublist _)⟩
    · rw [if_neg h2] at h
      by_cases h4 : hasS (c.toNat : Int) 4 = true
      · rw [if_pos h4] at h
        by_cases e1 : nDig (c :: r) = 0
        · rw [if_pos e1] at h; cases h
        · rw [if_neg e1] at h
          by_cases e2 : 4294967296 ≤ nVal (c :: r)
          · rw [if_pos e2] at h; cases h
          · rw [if_neg e2] at h
            by_cases e3 : nTail (c :: r) = true
            · rw [if_pos e3] at h; cases h
            · rw [if_neg e3] at h
              cases h
              exact ⟨by unfold nLen; omega, nLen_le _⟩
      · rw [if_neg h4] at h
        by_cases h8 : hasS (c.toNat : Int) 8 = true
        · rw [if_pos h8] at h
          cases h
          exact ⟨by unfold markN; split <;> omega, markN_le c r⟩
        · rw [if_neg h8] at h; cases h

/-- A token by itself is the same token. -/
theorem oneL_take {R : List UInt8} {k n : Int} {m : Nat} (h : oneL R = .tok k m n) : oneL (R.take m) = .tok k m n := by
  obtain ⟨hp, hle⟩ := oneL_pos h
  cases R with
  | nil => simp [oneL] at h
  | cons c r =>
    obtain ⟨q, rfl⟩ : ∃ q, m = q + 1 := ⟨m - 1, by omega⟩
    rw [List.take_succ_cons]
    simp only [oneL] at h ⊢
    by_cases h2 : hasS (c.toNat : Int) 2 = true
    · rw [if_pos h2] at h ⊢
      by_cases h16 : 16 < whileN 6 (c :: r)
      · rw [if_pos h16] at h; cases h
      · rw [if_neg h16] at h
        simp only [One.tok.injEq] at h
        obtain ⟨rfl, hm, rfl⟩ := h
        have e : whileN 6 (c :: r.take q) = q + 1 := by
          have : c :: r.take q = (c :: r).takeWhile fun c => hasS (c.toNat : Int) 6 := by
            rw [← List.take_succ_cons, ← hm]; exact takeWhile_take _
          rw [this]
          unfold whileN
          rw [tw_tw]
          exact hm
        rw [e, if_neg (by omega)]
    · rw [if_neg h2] at h ⊢
      by_cases h4 : hasS (c.toNat : Int) 4 = true
      · rw [if_pos h4] at h ⊢
        by_cases e1 : nDig (c :: r) = 0
        · rw [if_pos e1] at h; cases h
        · rw [if_neg e1] at h
          by_cases e2 : 4294967296 ≤ nVal (c :: r)
          · rw [if_pos e2] at h; cases h
          · rw [if_neg e2] at h
            by_cases e3 : nTail (c :: r) = true
            · rw [if_pos e3] at h; cases h
            · rw [if_neg e3] at h
              simp only [One.tok.injEq] at h
              obtain ⟨rfl, hm, rfl⟩ := h
              have hT : c :: r.take q = (c :: r).take (nLen (c :: r)) := by rw [hm, List.take_succ_cons]
              have hhx : hxB ((c :: r).take (nLen (c :: r))) = hxB (c :: r) := by
                cases hx : hxB (c :: r) with
                | true =>
                  obtain ⟨s, hs⟩ := List.isPrefixOf_iff_prefix.1 hx
                  have h3 : 3 ≤ nLen (c :: r) := by unfold nLen nHead; rw [if_pos hx]; omega
                  obtain ⟨j, hj⟩ : ∃ j, nLen (c :: r) = j + 2 := ⟨nLen (c :: r) - 2, by omega⟩
                  rw [hj, ← hs]
                  exact List.isPrefixOf_iff_prefix.2 ⟨s.take j, by simp⟩
                | false =>
                  cases hx2 : hxB ((c :: r).take (nLen (c :: r))) with
                  | false => rfl
                  | true =>
                    have := (List.isPrefixOf_iff_prefix.1 hx2).trans (List.take_prefix _ _)
                    rw [hxB, List.isPrefixOf_iff_prefix.2 this] at hx
                    cases hx
              have hhd : nHead ((c :: r).take (nLen (c :: r))) = nHead (c :: r) := by unfold nHead; rw [hhx]
              have hbs : nBase ((c :: r).take (nLen (c :: r))) = nBase (c :: r) := by unfold nBase; rw [hhx]
              have hdr : ((c :: r).take (nLen (c :: r))).drop (nHead (c :: r)) = ((c :: r).drop (nHead (c :: r))).takeWhile fun x => !stopB (nBase (c :: r) : Int) x.toNat := by
                rw [List.drop_take, show nLen (c :: r) - nHead (c :: r) = nDig (c :: r) by unfold nLen; omega]
                exact takeWhile_take _
              have hdg : nDig ((c :: r).take (nLen (c :: r))) = nDig (c :: r) := by
                unfold nDig at hdr ⊢
                rw [hhd, hbs, hdr]
                unfold digN
                rw [tw_tw]
              have hln : nLen ((c :: r).take (nLen (c :: r))) = nLen (c :: r) := by unfold nLen at hdg hhd ⊢; rw [hhd, hdg]
              have hvl : nVal ((c :: r).take (nLen (c :: r))) = nVal (c :: r) := by
                unfold nVal
                rw [hhd, hbs, hdg, hdr]
                congr 1
                refine (congrArg (List.take _) (takeWhile_take _).symm).trans ?_
                show List.take (nDig (c :: r)) (List.take (nDig (c :: r)) _) = _
                rw [List.take_take, Nat.min_self]
              have htl : nTail ((c :: r).take (nLen (c :: r))) = false := by
                unfold nTail
                rw [hln, List.getElem?_eq_none (by rw [List.length_take]; omega)]
              rw [hT, hdg, hvl, htl, hln, if_neg e1, if_neg e2, hm]
              simp
      · rw [if_neg h4] at h ⊢
        by_cases h8 : hasS (c.toNat : Int) 8 = true
        · rw [if_pos h8] at h ⊢
          simp only [One.tok.injEq] at h
          obtain ⟨rfl, hm, rfl⟩ := h
          have e : markN (c :: r.take q) = q + 1 := by
            rw [← hm]
            unfold markN at hm ⊢
            cases ht : twosL.any (fun m => m.isPrefixOf (c :: r)) with
            | true =>
              rw [ht] at hm
              obtain rfl : q = 1 := by simpa using hm.symm
              obtain ⟨y, M, rfl⟩ := two_first ht
              have : twosL.any (fun m => m.isPrefixOf (c :: (y :: M).take 1)) = twosL.any (fun m => m.isPrefixOf (c :: y :: M)) := by
                simp [twosL, List.isPrefixOf]
              rw [this, ht]
            | false =>
              rw [ht] at hm
              obtain rfl : q = 0 := by simpa using hm.symm
              have : twosL.any (fun m => m.isPrefixOf (c :: r.take 0)) = false := by simp [twosL, List.isPrefixOf]
              rw [this]
          rw [e]
        · rw [if_neg h8] at h; cases h

/-- Any fuel that is enough serves. -/
theorem lexG_fuel : ∀ (f g : Nat) (R : List UInt8) (p l : Nat), R.length < f → R.length < g → lexG f R p l = lexG g R p l
  | 0, _, _, _, _, h, _ => by omega
  | _, 0, _, _, _, _, h => by omega
  | f + 1, g + 1, R, p, l, h, k => by
    by_cases h0 : R = []
    · subst h0; rw [lexG_end, lexG_end]
    · cases ho : oneL R with
      | bad c o => rw [lexG_bad h0 ho, lexG_bad h0 ho]
      | tok kk m n =>
        obtain ⟨hp, hle⟩ := oneL_pos ho
        have hlen : ((R.drop m).drop (skipN false (R.drop m))).length < R.length := by rw [List.length_drop, List.length_drop]; omega
        rw [lexG_tok h0 ho, lexG_tok h0 ho, lexG_fuel f g _ _ _ (by omega) (by omega)]

theorem lexG_len : ∀ (f : Nat) (R : List UInt8) (p l : Nat), (lexG f R p l).1.length ≤ R.length + 1
  | 0, _, _, _ => by simp [lexG]
  | f + 1, R, p, l => by
    by_cases h0 : R = []
    · subst h0; rw [lexG_end]; simp
    · cases ho : oneL R with
      | bad c o => rw [lexG_bad h0 ho]; simp
      | tok k m n =>
        obtain ⟨hp, hle⟩ := oneL_pos ho
        have ih := lexG_len f ((R.drop m).drop (skipN false (R.drop m))) (p + m + skipN false (R.drop m)) (l + nls (R.take m) + nls ((R.drop m).take (skipN false (R.drop m))))
        rw [List.length_drop, List.length_drop] at ih
        rw [lexG_tok h0 ho, List.length_cons]
        omega
theorem lexL_len (s : List UInt8) : (lexL s).1.length ≤ s.length + 1 := by
  have := lexG_len (s.length + 1) (s.drop (skipN false s)) (skipN false s) (1 + nls (s.take (skipN false s)))
  rw [List.length_drop] at this
  unfold lexL
  dsimp only
  omega
theorem lexT_len (s : ByteArray) : (lexT s).length ≤ s.size + 1 := by
  unfold lexT
  have h := lexL_len s.data.toList
  have e : s.data.toList.length = s.size := rfl
  split
  · simp
  · split
    · simp
    · omega

def Tok.move (d e : Nat) (x : Tok) : Tok := ⟨x.k, x.a + d, x.l + e, x.t, x.n⟩
theorem lexG_move (d e : Nat) : ∀ (f : Nat) (R : List UInt8) (p l : Nat), lexG f R (p + d) (l + e) = ((lexG f R p l).1.map (Tok.move d e), (lexG f R p l).2.map fun c : Int × Int => (c.1, c.2 + (d : Int)))
  | 0, _, _, _ => rfl
  | f + 1, R, p, l => by
    by_cases h0 : R = []
    · subst h0; rw [lexG_end, lexG_end]; simp [Tok.move]
    · cases ho : oneL R with
      | bad c o =>
        rw [lexG_bad h0 ho, lexG_bad h0 ho]
        simp only [List.map_nil, Option.map_some]
        rw [show ((p + d + o : Nat) : Int) = ((p + o : Nat) : Int) + (d : Int) by omega]
      | tok k m n =>
        have ih := lexG_move d e f ((R.drop m).drop (skipN false (R.drop m))) (p + m + skipN false (R.drop m)) (l + nls (R.take m) + nls ((R.drop m).take (skipN false (R.drop m))))
        rw [lexG_tok h0 ho, lexG_tok h0 ho]
        rw [show p + d + m + skipN false (R.drop m) = p + m + skipN false (R.drop m) + d by omega, show l + e + nls (R.take m) + nls ((R.drop m).take (skipN false (R.drop m))) = l + nls (R.take m) + nls ((R.drop m).take (skipN false (R.drop m))) + e by omega, ih]
        simp [Tok.move]
end Go.Proofs.YtdlfjokhgmngcaaGreatDoor.Lx

/-! LexParts: of a text behind a line end. No program in sight. -/
namespace Go.Proofs.YtdlfjokhgmngcaaGreatDoor.Lx
open Go.RowKit Go.Shelf Go.Proofs.YtdlfjokhgmngcaaGreatDoorW.PrintWords
set_option linter.unusedVariables false
set_option linter.unusedSimpArgs false

/-- The tokens from a place on, by as much fuel as is wanted. -/
def lexA (R : List UInt8) (p l : Nat) : List Tok × Option (Int × Int) := lexG (R.length + 1) R p l
theorem lexA_of {f : Nat} {R : List UInt8} {p l : Nat} (h : R.length < f) : lexG f R p l = lexA R p l := lexG_fuel _ _ _ _ _ h (Nat.lt_succ_self _)
theorem lexA_end (p l : Nat) : lexA [] p l = ([⟨0, p, l, ⟨#[]⟩, 0⟩], none) := rfl
theorem lexA_bad {R : List UInt8} {p l : Nat} {c : Int} {o : Nat} (h0 : R ≠ []) (h : oneL R = .bad c o) : lexA R p l = ([], some (c, ((p + o : Nat) : Int))) := lexG_bad h0 h
theorem lexA_tok {R : List UInt8} {p l : Nat} {k n : Int} {m : Nat} (h : oneL R = .tok k m n) :
    lexA R p l = (⟨k, p, l, ⟨(R.take m).toArray⟩, n⟩ :: (lexA ((R.drop m).drop (skipN false (R.drop m))) (p + m + skipN false (R.drop m)) (l + nls (R.take m) + nls ((R.drop m).take (skipN false (R.drop m))))).1,
      (lexA ((R.drop m).drop (skipN false (R.drop m))) (p + m + skipN false (R.drop m)) (l + nls (R.take m) + nls ((R.drop m).take (skipN false (R.drop m))))).2) := by
  obtain ⟨hp, hle⟩ := oneL_pos h
  have h0 : R ≠ [] := by intro e; subst e; simp at hle; omega
  unfold lexA
  rw [lexG_tok h0 h, lexG_fuel R.length (((R.drop m).drop (skipN false (R.drop m))).length + 1) _ _ _ (by rw [List.length_drop, List.length_drop]; omega) (Nat.lt_succ_self _)]
theorem lexL_A (s : List UInt8) : lexL s = lexA (s.drop (skipN false s)) (skipN false s) (1 + nls (s.take (skipN false s))) := by
  unfold lexL
  exact lexA_of (by rw [List.length_drop]; omega)
theorem lexA_move (d e : Nat) (R : List UInt8) (p l : Nat) : lexA R (p + d) (l + e) = ((lexA R p l).1.map (Tok.move d e), (lexA R p l).2.map fun c : Int × Int => (c.1, c.2 + (d : Int))) := lexG_move d e _ _ _ _

theorem nls_app (a b : List UInt8) : nls (a ++ b) = nls a + nls b := List.count_append

theorem skip_app : ∀ (m : Bool) (a b : List UInt8),
    (skipN m (a ++ [10]) < a.length + 1 → skipN m (a ++ 10 :: b) = skipN m (a ++ [10])) ∧ (skipN m (a ++ [10]) = a.length + 1 → skipN m (a ++ 10 :: b) = a.length + 1 + skipN false b)
  | m, [], b => by
    have h : hasS (((10 : UInt8).toNat : Nat) : Int) 1 = true := hasS_10
    have e1 : skipN m [10] = 1 := by cases m <;> simp [skipN, hasS_10]
    have e2 : skipN m (10 :: b) = skipN false b + 1 := by cases m <;> simp [skipN, hasS_10]
    simp only [List.nil_append, List.length_nil]
    rw [e1, e2]
    exact ⟨fun h => by omega, fun _ => by omega⟩
  | true, c :: a, b => by
    obtain ⟨f1, f2⟩ := skip_app false a b
    obtain ⟨t1, t2⟩ := skip_app true a b
    simp only [List.cons_append, skipN, List.length_cons]
    by_cases h : c = 10
    · rw [if_pos h, if_pos h]
      exact ⟨fun k => by rw [f1 (by omega)], fun k => by rw [f2 (by omega)]; omega⟩
    · rw [if_neg h, if_neg h]
      exact ⟨fun k => by rw [t1 (by omega)], fun k => by rw [t2 (by omega)]; omega⟩
  | false, c :: a, b => by
    obtain ⟨f1, f2⟩ := skip_app false a b
    obtain ⟨t1, t2⟩ := skip_app true a b
    have hh : (a ++ 10 :: b).head? = (a ++ [10]).head? := by cases a <;> rfl
    simp only [List.cons_append, skipN, List.length_cons]
    rw [hh]
    by_cases h : hasS (c.toNat : Int) 1 = true
    · rw [if_pos h, if_pos h]
      exact ⟨fun k => by rw [f1 (by omega)], fun k => by rw [f2 (by omega)]; omega⟩
    · rw [if_neg h, if_neg h]
      by_cases h2 : c = 47 ∧ (a ++ [10]).head? = some 47
      · rw [if_pos h2, if_pos h2]
        exact ⟨fun k => by rw [t1 (by omega)], fun k => by rw [t2 (by omega)]; omega⟩
      · rw [if_neg h2, if_neg h2]
        exact ⟨fun _ => rfl, fun k => by omega⟩
/-- Behind what may stand between tokens nothing of it stands. -/
theorem skip_stops : ∀ (m : Bool) (l : List UInt8), skipN false (l.drop (skipN m l)) = 0
  | true, [] => rfl
  | false, [] => rfl
  | true, c :: r => by
    by_cases h : c = 10
    · have e : skipN true (c :: r) = skipN false r + 1 := by simp [skipN, h]
      rw [e, List.drop_succ_cons]; exact skip_stops false r
    · have e : skipN true (c :: r) = skipN true r + 1 := by simp [skipN, h]
      rw [e, List.drop_succ_cons]; exact skip_stops true r
  | false, c :: r => by
    by_cases h : hasS (c.toNat : Int) 1 = true
    · have e : skipN false (c :: r) = skipN false r + 1 := by simp [skipN, h]
      rw [e, List.drop_succ_cons]; exact skip_stops false r
    · by_cases h2 : c = 47 ∧ r.head? = some 47
      · have e : skipN false (c :: r) = skipN true r + 1 := by simp only [skipN]; rw [if_neg h, if_pos h2]
        rw [e, List.drop_succ_cons]; exact skip_stops true r
      · have e : skipN false (c :: r) = 0 := by simp only [skipN]; rw [if_neg h, if_neg h2]
        rw [e, List.drop_zero, e]
theorem len_snoc (X : List UInt8) : (X ++ [10]).length = X.length + 1 := by simp
theorem drop_snoc (X b : List UInt8) (k : Nat) : (X ++ 10 :: b).drop (X.length + 1 + k) = b.drop k := by
  rw [← len_snoc, show X ++ 10 :: b = (X ++ [10]) ++ b by simp]
  exact List.drop_length_add_append ..
theorem take_snoc' (X b : List UInt8) (k : Nat) : (X ++ 10 :: b).take (X.length + 1 + k) = (X ++ [10]) ++ b.take k := by
  rw [← len_snoc, show X ++ 10 :: b = (X ++ [10]) ++ b by simp]
  exact List.take_length_add_append ..

/-- A text that ends in a line end: what comes behind it is lexed by itself. -/
theorem lexA_app (b : List UInt8) : ∀ (n : Nat) (R0 : List UInt8) (p l : Nat), R0.length ≤ n → R0 ≠ [] →
    (∀ cp, (lexA (R0 ++ [10]) p l).2 = some cp → (lexA (R0 ++ 10 :: b) p l).2 = some cp) ∧
    ((lexA (R0 ++ [10]) p l).2 = none → ∃ T e, (lexA (R0 ++ [10]) p l).1 = T ++ [e] ∧
      lexA (R0 ++ 10 :: b) p l = (T ++ (lexA (b.drop (skipN false b)) (p + R0.length + 1 + skipN false b) (l + nls (R0 ++ [10]) + nls (b.take (skipN false b)))).1,
        (lexA (b.drop (skipN false b)) (p + R0.length + 1 + skipN false b) (l + nls (R0 ++ [10]) + nls (b.take (skipN false b)))).2)) := by
  intro n
  induction n with
  | zero => intro R0 p l h h0; exact absurd (List.length_eq_zero_iff.1 (by omega)) h0
  | succ n ih =>
    intro R0 p l hn h0
    have hb10 : blk 10 = true := hasS_10
    have o1 : oneL (R0 ++ [10]) = oneL R0 := oneL_app R0 [10] h0 (Gap.cons hb10)
    have o2 : oneL (R0 ++ 10 :: b) = oneL R0 := oneL_app R0 (10 :: b) h0 (Gap.cons hb10)
    have n1 : R0 ++ [10] ≠ [] := by simp
    have n2 : R0 ++ 10 :: b ≠ [] := by simp
    cases ho : oneL R0 with
    | bad c o =>
      rw [lexA_bad n1 (o1.trans ho), lexA_bad n2 (o2.trans ho)]
      exact ⟨fun _ h => h, (fun h => by cases h)⟩
    | tok k m nn =>
      obtain ⟨hp, hle⟩ := oneL_pos ho
      have d1 : (R0 ++ [10]).drop m = R0.drop m ++ [10] := List.drop_append_of_le_length hle
      have d2 : (R0 ++ 10 :: b).drop m = R0.drop m ++ 10 :: b := List.drop_append_of_le_length hle
      have t1 : (R0 ++ [10]).take m = R0.take m := List.take_append_of_le_length hle
      have t2 : (R0 ++ 10 :: b).take m = R0.take m := List.take_append_of_le_length hle
      rw [lexA_tok (o1.trans ho), lexA_tok (o2.trans ho), d1, d2, t1, t2]
      have hX : (R0.drop m).length = R0.length - m := List.length_drop
      have hnl : nls (R0 ++ [10]) = nls (R0.take m) + nls (R0.drop m ++ [10]) := by
        rw [← nls_app, ← List.append_assoc, List.take_append_drop]
      obtain ⟨s1, s2⟩ := skip_app false (R0.drop m) b
      have hjle := skipN_le false (R0.drop m ++ [10])
      rw [List.length_append, List.length_singleton] at hjle
      rcases Nat.lt_or_ge (skipN false (R0.drop m ++ [10])) ((R0.drop m).length + 1) with hj | hj
      · rw [s1 hj]
        have hj2 : skipN false (R0.drop m ++ [10]) ≤ (R0.drop m).length := by omega
        generalize hjj : skipN false (R0.drop m ++ [10]) = j at *
        have e1 : (R0.drop m ++ [10]).drop j = (R0.drop m).drop j ++ [10] := List.drop_append_of_le_length hj2
        have e2 : (R0.drop m ++ 10 :: b).drop j = (R0.drop m).drop j ++ 10 :: b := List.drop_append_of_le_length hj2
        have e3 : (R0.drop m ++ [10]).take j = (R0.drop m).take j := List.take_append_of_le_length hj2
        have e4 : (R0.drop m ++ 10 :: b).take j = (R0.drop m).take j := List.take_append_of_le_length hj2
        rw [e1, e2, e3, e4]
        have hne : (R0.drop m).drop j ≠ [] := by
          intro e
          have := skip_stops false (R0.drop m ++ [10])
          rw [hjj, e1, e] at this
          simp [skipN, hasS_10] at this
        obtain ⟨i1, i2⟩ := ih ((R0.drop m).drop j) (p + m + j) (l + nls (R0.take m) + nls ((R0.drop m).take j)) (by rw [List.length_drop]; omega) hne
        refine ⟨fun cp h => i1 cp h, fun h => ?_⟩
        obtain ⟨T, e, h1, h2⟩ := i2 h
        refine ⟨_ :: T, e, by rw [h1]; rfl, ?_⟩
        have q1 : p + m + j + ((R0.drop m).drop j).length + 1 + skipN false b = p + R0.length + 1 + skipN false b := by rw [List.length_drop]; omega
        have q2 : l + nls (R0.take m) + nls ((R0.drop m).take j) + nls ((R0.drop m).drop j ++ [10]) + nls (b.take (skipN false b)) = l + nls (R0 ++ [10]) + nls (b.take (skipN false b)) := by
          have : nls (R0.drop m ++ [10]) = nls ((R0.drop m).take j) + nls ((R0.drop m).drop j ++ [10]) := by
            rw [← nls_app, ← List.append_assoc, List.take_append_drop]
          omega
        rw [h2, q1, q2]
        rfl
      · have hj2 : skipN false (R0.drop m ++ [10]) = (R0.drop m).length + 1 := by omega
        rw [s2 hj2, hj2]
        have e1 : (R0.drop m ++ [10]).drop ((R0.drop m).length + 1) = [] := List.drop_of_length_le (by rw [len_snoc]; exact Nat.le_refl _)
        have e2 := drop_snoc (R0.drop m) b (skipN false b)
        have e4 := take_snoc' (R0.drop m) b (skipN false b)
        have e5 : (R0.drop m ++ [10]).take ((R0.drop m).length + 1) = R0.drop m ++ [10] := List.take_of_length_le (by rw [len_snoc]; exact Nat.le_refl _)
        rw [e1, e2, e4, e5, lexA_end]
        refine ⟨(fun cp h => by cases h), fun _ => ⟨[_], _, rfl, ?_⟩⟩
        have q1 : p + m + ((R0.drop m).length + 1 + skipN false b) = p + R0.length + 1 + skipN false b := by omega
        have q2 : l + nls (R0.take m) + nls (R0.drop m ++ [10] ++ b.take (skipN false b)) = l + nls (R0 ++ [10]) + nls (b.take (skipN false b)) := by
          rw [nls_app (R0.drop m ++ [10])]; omega
        rw [q1, q2]
        rfl

/-- The whole of it. -/
theorem lexL_app (a0 b : List UInt8) :
    (∀ cp, (lexL (a0 ++ [10])).2 = some cp → (lexL (a0 ++ 10 :: b)).2 = some cp) ∧
    ((lexL (a0 ++ [10])).2 = none → ∃ T e, (lexL (a0 ++ [10])).1 = T ++ [e] ∧
      lexL (a0 ++ 10 :: b) = (T ++ (lexL b).1.map (Tok.move (a0.length + 1) (nls (a0 ++ [10]))), (lexL b).2.map fun c : Int × Int => (c.1, c.2 + ((a0.length + 1 : Nat) : Int)))) := by
  rw [lexL_A (a0 ++ [10]), lexL_A (a0 ++ 10 :: b), lexL_A b]
  obtain ⟨s1, s2⟩ := skip_app false a0 b
  have hjle := skipN_le false (a0 ++ [10])
  rw [List.length_append, List.length_singleton] at hjle
  have mv : ∀ (R : List UInt8) (p l p2 l2 : Nat), p2 = p + (a0.length + 1) → l2 = l + nls (a0 ++ [10]) → lexA R p2 l2 = ((lexA R p l).1.map (Tok.move (a0.length + 1) (nls (a0 ++ [10]))), (lexA R p l).2.map fun c : Int × Int => (c.1, c.2 + ((a0.length + 1 : Nat) : Int))) := by
    intro R p l p2 l2 h1 h2
    rw [h1, h2]; exact lexA_move _ _ _ _ _
  rcases Nat.lt_or_ge (skipN false (a0 ++ [10])) (a0.length + 1) with hj | hj
  · rw [s1 hj]
    generalize hjj : skipN false (a0 ++ [10]) = j at *
    have hj2 : j ≤ a0.length := by omega
    have e1 : (a0 ++ [10]).drop j = a0.drop j ++ [10] := List.drop_append_of_le_length hj2
    have e2 : (a0 ++ 10 :: b).drop j = a0.drop j ++ 10 :: b := List.drop_append_of_le_length hj2
    have e3 : (a0 ++ [10]).take j = a0.take j := List.take_append_of_le_length hj2
    have e4 : (a0 ++ 10 :: b).take j = a0.take j := List.take_append_of_le_length hj2
    rw [e1, e2, e3, e4]
    have hne : a0.drop j ≠ [] := by
      intro e
      have := skip_stops false (a0 ++ [10])
      rw [hjj, e1, e] at this
      simp [skipN, hasS_10] at this
    obtain ⟨i1, i2⟩ := lexA_app b (a0.drop j).length (a0.drop j) j (1 + nls (a0.take j)) (Nat.le_refl _) hne
    refine ⟨i1, fun h => ?_⟩
    obtain ⟨T, e, h1, h2⟩ := i2 h
    refine ⟨T, e, h1, ?_⟩
    have hs : nls (a0 ++ [10]) = nls (a0.take j) + nls (a0.drop j ++ [10]) := by
      rw [← nls_app, ← List.append_assoc, List.take_append_drop]
    rw [h2, mv _ (skipN false b) (1 + nls (b.take (skipN false b))) (j + (a0.drop j).length + 1 + skipN false b) (1 + nls (a0.take j) + nls (a0.drop j ++ [10]) + nls (b.take (skipN false b))) (by rw [List.length_drop]; omega) (by omega)]
  · have hj2 : skipN false (a0 ++ [10]) = a0.length + 1 := by omega
    rw [s2 hj2, hj2]
    have e1 : (a0 ++ [10]).drop (a0.length + 1) = [] := List.drop_of_length_le (by rw [len_snoc]; exact Nat.le_refl _)
    have e2 := drop_snoc a0 b (skipN false b)
    have e4 := take_snoc' a0 b (skipN false b)
    rw [e1, e2, e4, lexA_end]
    refine ⟨(fun cp h => by cases h), fun _ => ⟨[], _, rfl, ?_⟩⟩
    rw [mv _ (skipN false b) (1 + nls (b.take (skipN false b))) (a0.length + 1 + skipN false b) (1 + nls (a0 ++ [10] ++ b.take (skipN false b))) (by omega) (by rw [nls_app (a0 ++ [10])]; omega)]
    rfl
end Go.Proofs.YtdlfjokhgmngcaaGreatDoor.Lx

/-! LexCovers: tokens rise and stand apart, and set one behind the other they are lexed to the same. No program in sight. -/
namespace Go.Proofs.YtdlfjokhgmngcaaGreatDoor.Lx
open Go.RowKit Go.Shelf Go.Proofs.YtdlfjokhgmngcaaGreatDoorW.PrintWords
set_option linter.unusedVariables false
set_option linter.unusedSimpArgs false

theorem oneL_kind {R : List UInt8} {k n : Int} {m : Nat} (h : oneL R = .tok k m n) : (k = 1 ∨ k = 2 ∨ k = 3) ∧ (k ≠ 2 → n = 0) := by
  cases R with
  | nil => simp [oneL] at h
  | cons c r =>
    simp only [oneL] at h
    by_cases h2 : hasS (c.toNat : Int) 2 = true
    · rw [if_pos h2] at h
      by_cases h16 : 16 < whileN 6 (c :: r)
      · rw [if_pos h16] at h; cases h
      · rw [if_neg h16] at h
        cases h
        exact ⟨.inl rfl, fun _ => rfl⟩
    · rw [if_neg h2] at h
      by_cases h4 : hasS (c.toNat : Int) 4 = true
      · rw [if_pos h4] at h
        by_cases e1 : nDig (c :: r) = 0
        · rw [if_pos e1] at h; cases h
        · rw [if_neg e1] at h
          by_cases e2 : 4294967296 ≤ nVal (c :: r)
          · rw [if_pos e2] at h; cases h
          · rw [if_neg e2] at h
            by_cases e3 : nTail (c :: r) = true
            · rw [if_pos e3] at h; cases h
            · rw [if_neg e3] at h
              cases h
              exact ⟨.inr (.inl rfl), fun k => absurd rfl k⟩
      · rw [if_neg h4] at h
        by_cases h8 : hasS (c.toNat : Int) 8 = true
        · rw [if_pos h8] at h
          cases h
          exact ⟨.inr (.inr rfl), fun _ => rfl⟩
        · rw [if_neg h8] at h; cases h

theorem blk_false {c : UInt8} (h : hasS (c.toNat : Int) 6 = true ∨ hasS (c.toNat : Int) 8 = true ∨ stopB 10 c.toNat = false ∨ stopB 16 c.toNat = false ∨ c = 48 ∨ c = 120 ∨ c = 60 ∨ c = 61 ∨ c = 62) : blk c = false := by
  cases hb : blk c with
  | false => rfl
  | true =>
    obtain ⟨h1, h2, h3, h4, h5, h6, h7, h8, h9, h10, h11, h12⟩ := blk_none hb
    rcases h with h | h | h | h | h | h | h | h | h
    · rw [h3] at h; cases h
    · rw [h4] at h; cases h
    · rw [h5] at h; cases h
    · rw [h6] at h; cases h
    · exact absurd h h7
    · exact absurd h h8
    · exact absurd h h9
    · exact absurd h h10
    · exact absurd h h11

/-- No byte of a token may stand between tokens. -/
theorem oneL_bytes {R : List UInt8} {k n : Int} {m : Nat} (h : oneL R = .tok k m n) : ∀ c ∈ R.take m, blk c = false := by
  cases R with
  | nil => simp [oneL] at h
  | cons c r =>
    simp only [oneL] at h
    by_cases h2 : hasS (c.toNat : Int) 2 = true
    · rw [if_pos h2] at h
      by_cases h16 : 16 < whileN 6 (c :: r)
      · rw [if_pos h16] at h; cases h
      · rw [if_neg h16] at h
        cases h
        intro d hd
        have e : (c :: r).take (whileN 6 (c :: r)) = (c :: r).takeWhile fun c => hasS (c.toNat : Int) 6 := takeWhile_take _
        rw [e] at hd
        exact blk_false (.inl (takeWhile_all (p := fun c => hasS (c.toNat : Int) 6) (c :: r) d hd))
    · rw [if_neg h2] at h
      by_cases h4 : hasS (c.toNat : Int) 4 = true
      · rw [if_pos h4] at h
        by_cases e1 : nDig (c :: r) = 0
        · rw [if_pos e1] at h; cases h
        · rw [if_neg e1] at h
          by_cases e2 : 4294967296 ≤ nVal (c :: r)
          · rw [if_pos e2] at h; cases h
          · rw [if_neg e2] at h
            by_cases e3 : nTail (c :: r) = true
            · rw [if_pos e3] at h; cases h
            · rw [if_neg e3] at h
              cases h
              intro d hd
              have hs : (c :: r).take (nLen (c :: r)) = (c :: r).take (nHead (c :: r)) ++ ((c :: r).drop (nHead (c :: r))).takeWhile fun x => !stopB (nBase (c :: r) : Int) x.toNat := by
                rw [nLen, List.take_add]
                congr 1
                exact takeWhile_take _
              rw [hs, List.mem_append] at hd
              rcases hd with hd | hd
              · unfold nHead at hd
                by_cases hx : hxB (c :: r) = true
                · rw [if_pos hx] at hd
                  obtain ⟨s, hs⟩ := List.isPrefixOf_iff_prefix.1 hx
                  rw [← hs] at hd
                  have : d = 48 ∨ d = 120 := by simpa using hd
                  rcases this with e | e
                  · exact blk_false (.inr (.inr (.inr (.inr (.inl e)))))
                  · exact blk_false (.inr (.inr (.inr (.inr (.inr (.inl e))))))
                · rw [if_neg hx] at hd; simp at hd
              · have := takeWhile_all (p := fun x : UInt8 => !stopB (nBase (c :: r) : Int) x.toNat) _ d hd
                have h5 : stopB (nBase (c :: r) : Int) d.toNat = false := by simpa using this
                rcases nBase_or (c :: r) with e | e
                · rw [e] at h5; exact blk_false (.inr (.inr (.inl h5)))
                · rw [e] at h5; exact blk_false (.inr (.inr (.inr (.inl h5))))
      · rw [if_neg h4] at h
        by_cases h8 : hasS (c.toNat : Int) 8 = true
        · rw [if_pos h8] at h
          cases h
          intro d hd
          unfold markN at hd
          by_cases ht : twosL.any (fun m => m.isPrefixOf (c :: r)) = true
          · rw [if_pos ht] at hd
            obtain ⟨y, M, rfl⟩ := two_first ht
            have : d = c ∨ d = y := by simpa using hd
            rcases this with rfl | rfl
            · exact blk_false (.inr (.inl h8))
            · rcases two_head ht with e | e | e
              · exact blk_false (by simp [e])
              · exact blk_false (by simp [e])
              · exact blk_false (by simp [e])
          · rw [if_neg ht] at hd
            have : d = c := by simpa using hd
            subst this
            exact blk_false (.inr (.inl h8))
        · rw [if_neg h8] at h; cases h
theorem nls_none {l : List UInt8} (h : ∀ c ∈ l, blk c = false) : nls l = 0 := by
  unfold nls
  rw [List.count_eq_zero]
  intro hm
  have := h 10 hm
  rw [show blk 10 = true from hasS_10] at this
  cases this

/-- A run of the lexer that ends well. -/
inductive Run : List UInt8 → Nat → Nat → List Tok → Prop where
  | stop (p l : Nat) : Run [] p l [⟨0, p, l, ⟨#[]⟩, 0⟩]
  | tok {R : List UInt8} {p l : Nat} {k n : Int} {m : Nat} {T : List Tok} (h : oneL R = .tok k m n) (h0 : skipN false R = 0)
      (r : Run ((R.drop m).drop (skipN false (R.drop m))) (p + m + skipN false (R.drop m)) (l + nls (R.take m) + nls ((R.drop m).take (skipN false (R.drop m)))) T) :
      Run R p l (⟨k, p, l, ⟨(R.take m).toArray⟩, n⟩ :: T)

theorem run_pos {R : List UInt8} {p l : Nat} {T : List Tok} (h : Run R p l T) : 0 < T.length := by cases h <;> simp

theorem run_of : ∀ (n : Nat) (R : List UInt8) (p l : Nat), R.length ≤ n → skipN false R = 0 → (lexA R p l).2 = none → Run R p l (lexA R p l).1 := by
  intro n
  induction n with
  | zero =>
    intro R p l hn h0 h
    obtain rfl := List.length_eq_zero_iff.1 (show R.length = 0 by omega)
    rw [lexA_end]; exact .stop p l
  | succ n ih =>
    intro R p l hn h0 h
    by_cases hR : R = []
    · subst hR; rw [lexA_end]; exact .stop p l
    · cases ho : oneL R with
      | bad c o => rw [lexA_bad hR ho] at h; cases h
      | tok k m nn =>
        obtain ⟨hp, hle⟩ := oneL_pos ho
        rw [lexA_tok ho] at h ⊢
        exact .tok ho h0 (ih _ _ _ (by rw [List.length_drop, List.length_drop]; omega) (skip_stops false _) h)
theorem run_T {s : ByteArray} (h : lexF s = none) : Run (s.data.toList.drop (skipN false s.data.toList)) (skipN false s.data.toList) (1 + nls (s.data.toList.take (skipN false s.data.toList))) (lexT s) := by
  unfold lexF at h
  unfold lexT
  by_cases h1 : 20000 < s.size
  · rw [if_pos h1] at h; cases h
  · rw [if_neg h1] at h ⊢
    rw [h]
    dsimp only
    rw [lexL_A] at h ⊢
    exact run_of _ _ _ _ (Nat.le_refl _) (skip_stops false _) h

theorem skip_take : ∀ (m : Bool) (l : List UInt8), skipN m (l.take (skipN m l)) = skipN m l
  | true, [] => rfl
  | false, [] => rfl
  | true, c :: r => by
    by_cases h : c = 10
    · have e : skipN true (c :: r) = skipN false r + 1 := by simp [skipN, h]
      rw [e, List.take_succ_cons]
      have e2 : skipN true (c :: r.take (skipN false r)) = skipN false (r.take (skipN false r)) + 1 := by simp [skipN, h]
      rw [e2, skip_take false r]
    · have e : skipN true (c :: r) = skipN true r + 1 := by simp [skipN, h]
      rw [e, List.take_succ_cons]
      have e2 : skipN true (c :: r.take (skipN true r)) = skipN true (r.take (skipN true r)) + 1 := by simp [skipN, h]
      rw [e2, skip_take true r]
  | false, c :: r => by
    by_cases h : hasS (c.toNat : Int) 1 = true
    · have e : skipN false (c :: r) = skipN false r + 1 := by simp [skipN, h]
      rw [e, List.take_succ_cons]
      have e2 : skipN false (c :: r.take (skipN false r)) = skipN false (r.take (skipN false r)) + 1 := by simp [skipN, h]
      rw [e2, skip_take false r]
    · by_cases h2 : c = 47 ∧ r.head? = some 47
      · have e : skipN false (c :: r) = skipN true r + 1 := by simp only [skipN]; rw [if_neg h, if_pos h2]
        rw [e, List.take_succ_cons]
        have h3 : (r.take (skipN true r)).head? = some 47 := by
          cases r with
          | nil => simp at h2
          | cons d r =>
            have : d = 47 := by simpa using h2.2
            subst this
            have e3 : skipN true (47 :: r) = skipN true r + 1 := by
              have : ¬ ((47 : UInt8) = 10) := by decide
              simp [skipN, this]
            rw [e3]; rfl
        have e2 : skipN false (c :: r.take (skipN true r)) = skipN true (r.take (skipN true r)) + 1 := by
          conv => lhs; unfold skipN
          rw [if_neg h, if_pos ⟨h2.1, h3⟩]
        rw [e2, skip_take true r]
      · have e : skipN false (c :: r) = 0 := by simp only [skipN]; rw [if_neg h, if_neg h2]
        rw [e]; rfl

/-- What a token is asked, at being the place behind the one ahead of it. -/
structure Tk (s : List UInt8) (at_ : Nat) (x : Tok) : Prop where
  a : ∃ q : Nat, x.a = q ∧ at_ ≤ q ∧ q + x.t.size ≤ s.length ∧ (s.drop q).take x.t.size = x.t.data.toList ∧ skipN false ((s.drop at_).take (q - at_)) = q - at_ ∧ x.l = ((1 + nls (s.take q) : Nat) : Int)
  e : x.t.size = 0 ↔ x.k = 0
  n : x.k ≠ 2 → x.n = 0
  last : x.k = 0 → x.a = (s.length : Nat)
def endF (at_ : Nat) (T : List Tok) : Nat → Nat
  | 0 => at_
  | i + 1 => match T[i]? with
    | some x => x.a.toNat + x.t.size
    | none => 0

theorem run_chain (s : List UInt8) {R : List UInt8} {p l : Nat} {T : List Tok} (hr : Run R p l T) : ∀ (pre : List UInt8) (at_ : Nat), s = pre ++ R → p = pre.length → l = 1 + nls pre → at_ ≤ p → skipN false ((s.drop at_).take (p - at_)) = p - at_ →
    ∀ i x, T[i]? = some x → Tk s (endF at_ T i) x ∧ (x.k = 0 ↔ i + 1 = T.length) := by
  induction hr with
  | stop p l =>
    intro pre at_ hs hp hl hat hg i x hx
    cases i with
    | succ i => simp at hx
    | zero =>
      obtain rfl : (⟨0, p, l, ⟨#[]⟩, 0⟩ : Tok) = x := by simpa using hx
      rw [List.append_nil] at hs
      subst hs
      refine ⟨⟨⟨p, rfl, hat, by rw [hp]; exact Nat.le_refl _, by simp [hp], hg, ?_⟩, by simp; rfl, fun _ => rfl, fun _ => by rw [hp]⟩, by simp⟩
      rw [hp, List.take_length, hl]
  | @tok R p l k n m T h h0 r ih =>
    intro pre at_ hs hp hl hat hg i x hx
    obtain ⟨hm, hle⟩ := oneL_pos h
    obtain ⟨hk, hkn⟩ := oneL_kind h
    have htsz : (⟨(R.take m).toArray⟩ : ByteArray).size = m := by
      show (R.take m).toArray.size = m
      simp; omega
    have hdrop : s.drop p = R := by rw [hs, hp, List.drop_left]
    have htake : s.take p = pre := by rw [hs, hp, List.take_left]
    have hlen : s.length = p + R.length := by rw [hs, List.length_append, hp]
    cases i with
    | zero =>
      obtain rfl : (⟨k, p, l, ⟨(R.take m).toArray⟩, n⟩ : Tok) = x := by simpa using hx
      refine ⟨⟨⟨p, rfl, hat, by rw [htsz]; omega, by rw [htsz, hdrop], hg, by rw [htake, hl]⟩, ?_, hkn, ?_⟩, ?_⟩
      · rw [htsz]; dsimp only; constructor
        · intro e; omega
        · intro e; rcases hk with h | h | h <;> omega
      · intro e; dsimp only at e; rcases hk with h | h | h <;> omega
      · dsimp only
        constructor
        · intro e; rcases hk with h | h | h <;> omega
        · intro e
          exfalso
          rw [List.length_cons] at e
          have := run_pos r
          omega
    | succ i =>
      have hx2 : T[i]? = some x := by simpa using hx
      have hj := skipN_le false (R.drop m)
      rw [List.length_drop] at hj
      obtain ⟨i1, i2⟩ := ih (pre ++ R.take m ++ (R.drop m).take (skipN false (R.drop m))) (p + m)
        (by rw [List.append_assoc, List.append_assoc, List.take_append_drop, List.take_append_drop]; exact hs)
        (by simp only [List.length_append, List.length_take, List.length_drop]; omega)
        (by rw [nls_app, nls_app]; omega) (by omega)
        (by
          rw [show p + m + skipN false (R.drop m) - (p + m) = skipN false (R.drop m) by omega, ← List.drop_drop, hdrop]
          exact skip_take false _) i x hx2
      refine ⟨?_, by rw [i2, List.length_cons]; omega⟩
      have : endF at_ (⟨k, p, l, ⟨(R.take m).toArray⟩, n⟩ :: T) (i + 1) = endF (p + m) T i := by
        cases i with
        | zero => simp [endF, htsz]
        | succ i => simp [endF]
      rw [this]
      exact i1

/-! ### set one behind the other -/
def sepB (i : Nat) : UInt8 := if i % 2 = 0 then 32 else 10
theorem sep_blk (i : Nat) : blk (sepB i) = true := by
  unfold sepB
  split
  · exact (show hasS 32 1 = true by decide +kernel)
  · exact hasS_10
def joinT : Nat → List Tok → List UInt8
  | _, [] => []
  | i, x :: T => x.t.data.toList ++ sepB i :: joinT (i + 1) T
theorem nls_sep (i : Nat) (l : List UInt8) : nls (sepB i :: l) = i % 2 + nls l := by
  unfold nls sepB
  split
  · rename_i h; rw [List.count_cons, h]; simp
  · rename_i h; rw [List.count_cons, show i % 2 = 1 by omega]; simp; omega

theorem run_join {R : List UInt8} {p l : Nat} {T : List Tok} (hr : Run R p l T) : ∀ (i p2 l2 : Nat), ∃ T2,
    lexA ((joinT i T).drop (skipN false (joinT i T))) (p2 + skipN false (joinT i T)) (l2 + nls ((joinT i T).take (skipN false (joinT i T)))) = (T2, none) ∧ T2.length = T.length ∧
    ∀ j x, T[j]? = some x → ∃ y, T2[j]? = some y ∧ y.k = x.k ∧ y.t = x.t ∧ y.n = x.n ∧ (j + 1 < T.length → y.l = ((l2 + ((i + j) / 2 - i / 2) : Nat) : Int)) := by
  induction hr with
  | stop p l =>
    intro i p2 l2
    have e1 : joinT i [⟨0, p, l, ⟨#[]⟩, 0⟩] = [sepB i] := rfl
    have e2 : skipN false [sepB i] = 1 := by
      have : hasS ((sepB i).toNat : Int) 1 = true := sep_blk i
      simp [skipN, this]
    rw [e1, e2]
    refine ⟨_, lexA_end _ _, rfl, fun j x hx => ?_⟩
    cases j with
    | succ j => simp at hx
    | zero =>
      obtain rfl : (⟨0, p, l, ⟨#[]⟩, 0⟩ : Tok) = x := by simpa using hx
      exact ⟨_, rfl, rfl, rfl, rfl, fun h => by simp at h⟩
  | @tok R p l k n m T h h0 r ih =>
    intro i p2 l2
    obtain ⟨hm, hle⟩ := oneL_pos h
    have hT0 : R.take m ≠ [] := by
      intro e
      have := congrArg List.length e
      rw [List.length_take, List.length_nil] at this
      omega
    have hlen : (R.take m).length = m := by rw [List.length_take]; omega
    have e0 : joinT i (⟨k, p, l, ⟨(R.take m).toArray⟩, n⟩ :: T) = R.take m ++ sepB i :: joinT (i + 1) T := rfl
    have hgap : Gap (sepB i :: joinT (i + 1) T) := Gap.cons (sep_blk i)
    have ho : oneL (R.take m ++ sepB i :: joinT (i + 1) T) = .tok k m n := (oneL_app _ _ hT0 hgap).trans (oneL_take h)
    have hbytes := oneL_bytes h
    have hs0 : skipN false (R.take m ++ sepB i :: joinT (i + 1) T) = 0 := by
      obtain ⟨q, rfl⟩ : ∃ q, m = q + 1 := ⟨m - 1, by omega⟩
      cases R with
      | nil => simp at hle
      | cons c R =>
        rw [List.take_succ_cons] at hbytes ⊢
        have hc : ¬ hasS (c.toNat : Int) 1 = true := by
          have := hbytes c (by simp)
          rw [show blk c = hasS (c.toNat : Int) 1 from rfl] at this
          rw [this]; decide
        have h2 : ¬ (c = 47 ∧ (R.take q ++ sepB i :: joinT (i + 1) T).head? = some 47) := by
          rintro ⟨rfl, hh⟩
          cases hq : R.take q with
          | nil =>
            rw [hq] at hh
            have : sepB i = 47 := by simpa using hh
            have hb := (blk_none (sep_blk i)).2.2.2.2.2.2.2.2.2.2.2
            exact hb this
          | cons d Rq =>
            rw [hq] at hh
            have hd : d = 47 := by simpa using hh
            have hR : R.head? = some 47 := by
              cases R with
              | nil => simp at hq
              | cons x R =>
                cases q with
                | zero => simp at hq
                | succ q => simp at hq; simp [hq.1, hd]
            unfold skipN at h0
            rw [if_neg hc, if_pos ⟨rfl, hR⟩] at h0
            omega
        rw [List.cons_append]
        unfold skipN
        rw [if_neg hc, if_neg h2]
    rw [e0, hs0, List.drop_zero, List.take_zero]
    rw [show nls ([] : List UInt8) = 0 from rfl, lexA_tok ho]
    simp only [Nat.add_zero]
    have d1 : (R.take m ++ sepB i :: joinT (i + 1) T).drop m = sepB i :: joinT (i + 1) T := by
      conv => lhs; rw [← hlen]
      rw [hlen]
      exact (List.drop_left' hlen)
    have t1 : (R.take m ++ sepB i :: joinT (i + 1) T).take m = R.take m := List.take_left' hlen
    have sk : skipN false (sepB i :: joinT (i + 1) T) = skipN false (joinT (i + 1) T) + 1 := by
      have : hasS ((sepB i).toNat : Int) 1 = true := sep_blk i
      simp [skipN, this]
    rw [d1, t1, sk, List.drop_succ_cons, List.take_succ_cons, nls_sep, nls_none hbytes]
    simp only [Nat.add_zero]
    obtain ⟨T2, h1, h2, h3⟩ := ih (i + 1) (p2 + m + 1) (l2 + i % 2)
    rw [show p2 + m + (skipN false (joinT (i + 1) T) + 1) = p2 + m + 1 + skipN false (joinT (i + 1) T) by omega,
      show l2 + (i % 2 + nls ((joinT (i + 1) T).take (skipN false (joinT (i + 1) T)))) = l2 + i % 2 + nls ((joinT (i + 1) T).take (skipN false (joinT (i + 1) T))) by omega, h1]
    refine ⟨_, rfl, by rw [List.length_cons, List.length_cons, h2], fun j x hx => ?_⟩
    cases j with
    | zero =>
      obtain rfl : (⟨k, p, l, ⟨(R.take m).toArray⟩, n⟩ : Tok) = x := by simpa using hx
      exact ⟨_, rfl, rfl, rfl, rfl, fun _ => by simp⟩
    | succ j =>
      obtain ⟨y, y1, y2, y3, y4, y5⟩ := h3 j x (by simpa using hx)
      refine ⟨y, by simpa using y1, y2, y3, y4, fun hj => ?_⟩
      rw [y5 (by rw [List.length_cons] at hj; omega)]
      congr 1
      omega

theorem run_join_len {R : List UInt8} {p l : Nat} {T : List Tok} (hr : Run R p l T) : ∀ i, (joinT i T).length ≤ 2 * R.length + 1 := by
  induction hr with
  | stop p l => intro i; simp [joinT]
  | @tok R p l k n m T h h0 r ih =>
    intro i
    obtain ⟨hm, hle⟩ := oneL_pos h
    have := ih (i + 1)
    rw [List.length_drop, List.length_drop] at this
    have e0 : joinT i (⟨k, p, l, ⟨(R.take m).toArray⟩, n⟩ :: T) = R.take m ++ sepB i :: joinT (i + 1) T := rfl
    rw [e0, List.length_append, List.length_cons, List.length_take]
    omega

/-- What the tokens of a text that is right are asked. -/
theorem covers_at {s : ByteArray} (h : lexF s = none) : ∀ i x, (lexT s)[i]? = some x → Tk s.data.toList (endF 0 (lexT s) i) x ∧ (x.k = 0 ↔ i + 1 = (lexT s).length) := by
  have hr := run_T h
  refine run_chain s.data.toList hr (s.data.toList.take (skipN false s.data.toList)) 0 (List.take_append_drop _ _).symm ?_ rfl (Nat.zero_le _) ?_
  · rw [List.length_take]
    have := skipN_le false s.data.toList
    omega
  · rw [List.drop_zero, Nat.sub_zero]; exact skip_take false _
theorem covers_pos {s : ByteArray} (h : lexF s = none) : 0 < (lexT s).length := by
  exact run_pos (run_T h)
/-- The tokens, set one behind the other, are lexed to the same. -/
theorem covers_again {s : ByteArray} (h : lexF s = none) (hs : s.size ≤ 5000) :
    lexF ⟨(joinT 0 (lexT s)).toArray⟩ = none ∧ (lexT ⟨(joinT 0 (lexT s)).toArray⟩).length = (lexT s).length ∧
    ∀ j x, (lexT s)[j]? = some x → ∃ y, (lexT ⟨(joinT 0 (lexT s)).toArray⟩)[j]? = some y ∧ y.k = x.k ∧ y.t = x.t ∧ y.n = x.n ∧ (j + 1 < (lexT s).length → y.l = ((1 + j / 2 : Nat) : Int)) := by
  have hr := run_T h
  have hlen := run_join_len hr 0
  rw [List.length_drop] at hlen
  have e : s.data.toList.length = s.size := rfl
  obtain ⟨T2, h1, h2, h3⟩ := run_join hr 0 0 1
  rw [Nat.zero_add] at h1
  have hL : lexL (joinT 0 (lexT s)) = (T2, none) := by rw [lexL_A]; exact h1
  have hsz : ¬ 20000 < (⟨(joinT 0 (lexT s)).toArray⟩ : ByteArray).size := by
    show ¬ 20000 < (joinT 0 (lexT s)).toArray.size
    simp; omega
  have hF : lexF ⟨(joinT 0 (lexT s)).toArray⟩ = none := by
    rw [lexF, if_neg hsz]
    show (lexL (joinT 0 (lexT s)).toArray.toList).2 = none
    rw [List.toList_toArray, hL]
  have hT : lexT ⟨(joinT 0 (lexT s)).toArray⟩ = T2 := by
    rw [lexT, if_neg hsz]
    show (match (lexL (joinT 0 (lexT s)).toArray.toList).2 with | some _ => [] | none => (lexL (joinT 0 (lexT s)).toArray.toList).1) = T2
    rw [List.toList_toArray, hL]
  rw [hT]
  refine ⟨hF, h2, fun j x hx => ?_⟩
  obtain ⟨y, y1, y2, y3, y4, y5⟩ := h3 j x hx
  refine ⟨y, y1, y2, y3, y4, fun hj => ?_⟩
  rw [y5 hj]
  congr 1
  omega
end Go.Proofs.YtdlfjokhgmngcaaGreatDoor.Lx
