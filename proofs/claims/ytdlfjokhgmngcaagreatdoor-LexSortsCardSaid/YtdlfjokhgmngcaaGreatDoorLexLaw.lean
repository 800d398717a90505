/- The lexer as a Lean function: a token stands for itself (what stands behind it, if a blank comes first, is nothing to it); fuel; places moved; a text behind a line end. No program in sight. -/
import Derived.Test.YtdlfjokhgmngcaaGreatDoorSortsA
namespace Go.Proofs.YtdlfjokhgmngcaaGreatDoor.Lx
open Go.RowKit Go.Shelf Go.Proofs.YtdlfjokhgmngcaaGreatDoorW.PrintWords
set_option linter.unusedVariables false
set_option linter.unusedSimpArgs false

/-- A byte that may stand between tokens. -/
def blk (c : UInt8) : Bool := hasS (c.toNat : Int) 1
set_option maxRecDepth 100000 in
theorem blank_none : ∀ n : Nat, n < 256 → hasS (n : Int) 1 = true → hasS (n : Int) 2 = false ∧ hasS (n : Int) 4 = false ∧ hasS (n : Int) 6 = false ∧ hasS (n : Int) 8 = false ∧ stopB 10 n = true ∧ stopB 16 n = true ∧ n ≠ 48 ∧ n ≠ 120 ∧ n ≠ 60 ∧ n ≠ 61 ∧ n ≠ 62 ∧ n ≠ 47 := by decide +kernel
theorem blk_none {c : UInt8} (h : blk c = true) : hasS (c.toNat : Int) 2 = false ∧ hasS (c.toNat : Int) 4 = false ∧ hasS (c.toNat : Int) 6 = false ∧ hasS (c.toNat : Int) 8 = false ∧ stopB 10 c.toNat = true ∧ stopB 16 c.toNat = true ∧ c ≠ 48 ∧ c ≠ 120 ∧ c ≠ 60 ∧ c ≠ 61 ∧ c ≠ 62 ∧ c ≠ 47 := by
  obtain ⟨h1, h2, h3, h4, h5, h6, h7, h8, h9, h10, h11, h12⟩ := blank_none c.toNat c.toNat_lt h
  exact ⟨h1, h2, h3, h4, h5, h6, fun e => h7 (by rw [e]; rfl), fun e => h8 (by rw [e]; rfl), fun e => h9 (by rw [e]; rfl), fun e => h10 (by rw [e]; rfl), fun e => h11 (by rw [e]; rfl), fun e => h12 (by rw [e]; rfl)⟩

/-- What comes behind begins with such a byte, or there is nothing. -/
def Gap (Y : List UInt8) : Prop := ∀ y, Y.head? = some y → blk y = true
theorem Gap.nil : Gap [] := fun y h => by simp at h
theorem Gap.cons {c : UInt8} {Y : List UInt8} (h : blk c = true) : Gap (c :: Y) := fun y hy => by
  simp only [List.head?_cons, Option.some.injEq] at hy
  rw [← hy]; exact h

theorem tw_app {p : UInt8 → Bool} : ∀ (X Y : List UInt8), (∀ y, Y.head? = some y → p y = false) → (X ++ Y).takeWhile p = X.takeWhile p
  | [], Y, h => by
    cases Y with
    | nil => rfl
    | cons y Y => rw [List.nil_append, List.takeWhile_cons, h y rfl]; rfl
  | x :: X, Y, h => by
    rw [List.cons_append, List.takeWhile_cons, List.takeWhile_cons, tw_app X Y h]

theorem while_app {m : Int} (hm : m = 2 ∨ m = 4 ∨ m = 6 ∨ m = 8) (X Y : List UInt8) (h : Gap Y) : whileN m (X ++ Y) = whileN m X := by
  unfold whileN
  rw [tw_app]
  intro y hy
  obtain ⟨h1, h2, h3, h4, _⟩ := blk_none (h y hy)
  rcases hm with rfl | rfl | rfl | rfl
  · exact h1
  · exact h2
  · exact h3
  · exact h4
theorem dig_app {b : Int} (hb : b = 10 ∨ b = 16) (X Y : List UInt8) (h : Gap Y) : digN b (X ++ Y) = digN b X := by
  unfold digN
  rw [tw_app]
  intro y hy
  obtain ⟨_, _, _, _, h5, h6, _⟩ := blk_none (h y hy)
  rcases hb with rfl | rfl
  · rw [h5]; rfl
  · rw [h6]; rfl
theorem hxB_app (X Y : List UInt8) (h : Gap Y) : hxB (X ++ Y) = hxB X := by
  unfold hxB
  match X with
  | [] =>
    cases Y with
    | nil => rfl
    | cons y Y =>
      obtain ⟨_, _, _, _, _, _, h7, _⟩ := blk_none (h y rfl)
      have : (48 == y) = false := beq_eq_false_iff_ne.2 (fun e => h7 e.symm)
      simp [List.isPrefixOf, this]
  | [a] =>
    cases Y with
    | nil => rfl
    | cons y Y =>
      obtain ⟨_, _, _, _, _, _, _, h8, _⟩ := blk_none (h y rfl)
      have : (120 == y) = false := beq_eq_false_iff_ne.2 (fun e => h8 e.symm)
      simp [List.isPrefixOf, this]
  | a :: b :: X => simp [List.isPrefixOf]
theorem hx_len {X : List UInt8} (h : hxB X = true) : 2 ≤ X.length := by
  obtain ⟨r, rfl⟩ := List.isPrefixOf_iff_prefix.1 h
  simp
theorem nBase_or (X : List UInt8) : ((nBase X : Nat) : Int) = 10 ∨ ((nBase X : Nat) : Int) = 16 := by
  unfold nBase; split
  · exact .inr rfl
  · exact .inl rfl
theorem digN_le (b : Int) (l : List UInt8) : digN b l ≤ l.length := by
  unfold digN; exact List.Sublist.length_le (List.takeWhile_sublist _)
theorem nHead_app (X Y : List UInt8) (h : Gap Y) : nHead (X ++ Y) = nHead X := by unfold nHead; rw [hxB_app X Y h]
theorem nBase_app (X Y : List UInt8) (h : Gap Y) : nBase (X ++ Y) = nBase X := by unfold nBase; rw [hxB_app X Y h]
theorem drop_app (X Y : List UInt8) : (X ++ Y).drop (nHead X) = X.drop (nHead X) ++ Y := List.drop_append_of_le_length (nHead_le X)
theorem nDig_app (X Y : List UInt8) (h : Gap Y) : nDig (X ++ Y) = nDig X := by
  unfold nDig
  rw [nHead_app X Y h, nBase_app X Y h, drop_app, dig_app (nBase_or X) _ _ h]
theorem nLen_app (X Y : List UInt8) (h : Gap Y) : nLen (X ++ Y) = nLen X := by unfold nLen; rw [nHead_app X Y h, nDig_app X Y h]
theorem nDig_le (X : List UInt8) : nDig X ≤ (X.drop (nHead X)).length := digN_le _ _
theorem nVal_app (X Y : List UInt8) (h : Gap Y) : nVal (X ++ Y) = nVal X := by
  unfold nVal
  rw [nHead_app X Y h, nBase_app X Y h, nDig_app X Y h, drop_app, List.take_append_of_le_length (nDig_le X)]
theorem nTail_app (X Y : List UInt8) (h : Gap Y) : nTail (X ++ Y) = nTail X := by
  unfold nTail
  rw [nLen_app X Y h]
  rcases Nat.lt_or_eq_of_le (nLen_le X) with h1 | h1
  · rw [List.getElem?_append_left h1]
  · rw [List.getElem?_append_right (by omega), h1, Nat.sub_self, List.getElem?_eq_none (Nat.le_refl X.length)]
    cases Y with
    | nil => rfl
    | cons y Y => exact (blk_none (h y rfl)).2.2.1
theorem two_head {x y : UInt8} {L : List UInt8} (h : twosL.any (fun m => m.isPrefixOf (x :: y :: L)) = true) : y = 60 ∨ y = 61 ∨ y = 62 := by
  simp [twosL, List.isPrefixOf] at h
  rcases h with ⟨_, h⟩ | ⟨_, h⟩ | ⟨_, h⟩ | ⟨_, h⟩ | ⟨_, h⟩ | ⟨_, h⟩ <;> simp [← h]
theorem two_first {x : UInt8} {L : List UInt8} (h : twosL.any (fun m => m.isPrefixOf (x :: L)) = true) : ∃ y M, L = y :: M := by
  cases L with
  | nil => simp [twosL, List.isPrefixOf] at h
  | cons y M => exact ⟨y, M, rfl⟩
theorem twos_app (X Y : List UInt8) (h0 : X ≠ []) (h : Gap Y) : twosL.any (fun m => m.isPrefixOf (X ++ Y)) = twosL.any (fun m => m.isPrefixOf X) := by
  match X with
  | [] => exact absurd rfl h0
  | [a] =>
    have h1 : twosL.any (fun m => m.isPrefixOf [a]) = false := by simp [twosL, List.isPrefixOf]
    rw [h1]
    cases Y with
    | nil => exact h1
    | cons y Y =>
      cases hh : twosL.any (fun m => m.isPrefixOf ([a] ++ y :: Y)) with
      | false => rfl
      | true =>
        obtain ⟨_, _, _, _, _, _, _, _, h9, h10, h11, _⟩ := blk_none (h y rfl)
        rcases two_head hh with e | e | e
        · exact absurd e h9
        · exact absurd e h10
        · exact absurd e h11
  | a :: b :: X => simp [twosL, List.isPrefixOf]
theorem mark_app (X Y : List UInt8) (h0 : X ≠ []) (h : Gap Y) : markN (X ++ Y) = markN X := by unfold markN; rw [twos_app X Y h0 h]

/-- What stands behind, a blank coming first, is nothing to the token. -/
theorem oneL_app (X Y : List UInt8) (h0 : X ≠ []) (h : Gap Y) : oneL (X ++ Y) = oneL X := by
  obtain ⟨c, r, rfl⟩ := List.exists_cons_of_ne_nil h0
  have e : c :: r ++ Y = c :: (r ++ Y) := rfl
  have w6 := while_app (m := 6) (.inr (.inr (.inl rfl))) (c :: r) Y h
  have d1 := nDig_app (c :: r) Y h
  have d2 := nVal_app (c :: r) Y h
  have d3 := nTail_app (c :: r) Y h
  have d4 := nLen_app (c :: r) Y h
  have d5 := mark_app (c :: r) Y h0 h
  rw [e] at w6 d1 d2 d3 d4 d5 ⊢
  simp only [oneL]
  rw [w6, d1, d2, d3, d4, d5]

theorem tw_tw {p : UInt8 → Bool} : ∀ l : List UInt8, (l.takeWhile p).takeWhile p = l.takeWhile p
  | [] => rfl
  | c :: l => by
    cases h : p c with
    | true => rw [List.takeWhile_cons, h]; simp only [if_true]; rw [List.takeWhile_cons, h]; simp only [if_true]; rw [tw_tw l]
    | false => rw [List.takeWhile_cons, h]; rfl
theorem oneL_pos {R : List UInt8} {k n : Int} {m : Nat} (h : oneL R = .tok k m n) : 1 ≤ m ∧ m ≤ R.length := by
  cases R with
  | nil => simp [oneL] at h
  | cons c r =>
    simp only [oneL] at h
    by_cases h2 : hasS (c.toNat : Int) 2 = true
    · rw [if_pos h2] at h
      by_cases h16 : 16 < whileN 6 (c :: r)
      · rw [if_pos h16] at h; cases h
      · rw [if_neg h16] at h
        cases h
        exact ⟨whileN_pos h2, List.Sublist.length_le (List.takeWhile_sublist _)⟩
    · rw [if_neg h2] at h
      by_cases h4 : hasS (c.toNat : Int) 4 = true
      · rw [if_pos h4] at h
        by_cases e1 : nDig (c :: r) = 0
        · rw [if_pos e1] at h; cases h
        · rw [if_neg e1] at h
          by_cases e2 : 4294967296 ≤ nVal (c :: r)
          · rw [if_pos e2] at h; cases h
          · rw [if_neg e2] at h
            by_cases e3 : nTail (c :: r) = true
            · rw [if_pos e3] at h; cases h
            · rw [if_neg e3] at h
              cases h
              exact ⟨by unfold nLen; omega, nLen_le _⟩
      · rw [if_neg h4] at h
        by_cases h8 : hasS (c.toNat : Int) 8 = true
        · rw [if_pos h8] at h
          cases h
          exact ⟨by unfold markN; split <;> omega, markN_le c r⟩
        · rw [if_neg h8] at h; cases h

/-- A token by itself is the same token. -/
theorem oneL_take {R : List UInt8} {k n : Int} {m : Nat} (h : oneL R = .tok k m n) : oneL (R.take m) = .tok k m n := by
  obtain ⟨hp, hle⟩ := oneL_pos h
  cases R with
  | nil => simp [oneL] at h
  | cons c r =>
    obtain ⟨q, rfl⟩ : ∃ q, m = q + 1 := ⟨m - 1, by omega⟩
    rw [List.take_succ_cons]
    simp only [oneL] at h ⊢
    by_cases h2 : hasS (c.toNat : Int) 2 = true
    · rw [if_pos h2] at h ⊢
      by_cases h16 : 16 < whileN 6 (c :: r)
      · rw [if_pos h16] at h; cases h
      · rw [if_neg h16] at h
        simp only [One.tok.injEq] at h
        obtain ⟨rfl, hm, rfl⟩ := h
        have e : whileN 6 (c :: r.take q) = q + 1 := by
          have : c :: r.take q = (c :: r).takeWhile fun c => hasS (c.toNat : Int) 6 := by
            rw [← List.take_succ_cons, ← hm]; exact takeWhile_take _
          rw [this]
          unfold whileN
          rw [tw_tw]
          exact hm
        rw [e, if_neg (by omega)]
    · rw [if_neg h2] at h ⊢
      by_cases h4 : hasS (c.toNat : Int) 4 = true
      · rw [if_pos h4] at h ⊢
        by_cases e1 : nDig (c :: r) = 0
        · rw [if_pos e1] at h; cases h
        · rw [if_neg e1] at h
          by_cases e2 : 4294967296 ≤ nVal (c :: r)
          · rw [if_pos e2] at h; cases h
          · rw [if_neg e2] at h
            by_cases e3 : nTail (c :: r) = true
            · rw [if_pos e3] at h; cases h
            · rw [if_neg e3] at h
              simp only [One.tok.injEq] at h
              obtain ⟨rfl, hm, rfl⟩ := h
              have hT : c :: r.take q = (c :: r).take (nLen (c :: r)) := by rw [hm, List.take_succ_cons]
              have hhx : hxB ((c :: r).take (nLen (c :: r))) = hxB (c :: r) := by
                cases hx : hxB (c :: r) with
                | true =>
                  obtain ⟨s, hs⟩ := List.isPrefixOf_iff_prefix.1 hx
                  have h3 : 3 ≤ nLen (c :: r) := by unfold nLen nHead; rw [if_pos hx]; omega
                  obtain ⟨j, hj⟩ : ∃ j, nLen (c :: r) = j + 2 := ⟨nLen (c :: r) - 2, by omega⟩
                  rw [hj, ← hs]
                  exact List.isPrefixOf_iff_prefix.2 ⟨s.take j, by simp⟩
                | false =>
                  cases hx2 : hxB ((c :: r).take (nLen (c :: r))) with
                  | false => rfl
                  | true =>
                    have := (List.isPrefixOf_iff_prefix.1 hx2).trans (List.take_prefix _ _)
                    rw [hxB, List.isPrefixOf_iff_prefix.2 this] at hx
                    cases hx
              have hhd : nHead ((c :: r).take (nLen (c :: r))) = nHead (c :: r) := by unfold nHead; rw [hhx]
              have hbs : nBase ((c :: r).take (nLen (c :: r))) = nBase (c :: r) := by unfold nBase; rw [hhx]
              have hdr : ((c :: r).take (nLen (c :: r))).drop (nHead (c :: r)) = ((c :: r).drop (nHead (c :: r))).takeWhile fun x => !stopB (nBase (c :: r) : Int) x.toNat := by
                rw [List.drop_take, show nLen (c :: r) - nHead (c :: r) = nDig (c :: r) by unfold nLen; omega]
                exact takeWhile_take _
              have hdg : nDig ((c :: r).take (nLen (c :: r))) = nDig (c :: r) := by
                unfold nDig at hdr ⊢
                rw [hhd, hbs, hdr]
                unfold digN
                rw [tw_tw]
              have hln : nLen ((c :: r).take (nLen (c :: r))) = nLen (c :: r) := by unfold nLen at hdg hhd ⊢; rw [hhd, hdg]
              have hvl : nVal ((c :: r).take (nLen (c :: r))) = nVal (c :: r) := by
                unfold nVal
                rw [hhd, hbs, hdg, hdr]
                congr 1
                refine (congrArg (List.take _) (takeWhile_take _).symm).trans ?_
                show List.take (nDig (c :: r)) (List.take (nDig (c :: r)) _) = _
                rw [List.take_take, Nat.min_self]
              have htl : nTail ((c :: r).take (nLen (c :: r))) = false := by
                unfold nTail
                rw [hln, List.getElem?_eq_none (by rw [List.length_take]; omega)]
              rw [hT, hdg, hvl, htl, hln, if_neg e1, if_neg e2, hm]
              simp
      · rw [if_neg h4] at h ⊢
        by_cases h8 : hasS (c.toNat : Int) 8 = true
        · rw [if_pos h8] at h ⊢
          simp only [One.tok.injEq] at h
          obtain ⟨rfl, hm, rfl⟩ := h
          have e : markN (c :: r.take q) = q + 1 := by
            rw [← hm]
            unfold markN at hm ⊢
            cases ht : twosL.any (fun m => m.isPrefixOf (c :: r)) with
            | true =>
              rw [ht] at hm
              obtain rfl : q = 1 := by simpa using hm.symm
              obtain ⟨y, M, rfl⟩ := two_first ht
              have : twosL.any (fun m => m.isPrefixOf (c :: (y :: M).take 1)) = twosL.any (fun m => m.isPrefixOf (c :: y :: M)) := by
                simp [twosL, List.isPrefixOf]
              rw [this, ht]
            | false =>
              rw [ht] at hm
              obtain rfl : q = 0 := by simpa using hm.symm
              have : twosL.any (fun m => m.isPrefixOf (c :: r.take 0)) = false := by simp [twosL, List.isPrefixOf]
              rw [this]
          rw [e]
        · rw [if_neg h8] at h; cases h

/-- Any fuel that is enough serves. -/
theorem lexG_fuel : ∀ (f g : Nat) (R : List UInt8) (p l : Nat), R.length < f → R.length < g → lexG f R p l = lexG g R p l
  | 0, _, _, _, _, h, _ => by omega
  | _, 0, _, _, _, _, h => by omega
  | f + 1, g + 1, R, p, l, h, k => by
    by_cases h0 : R = []
    · subst h0; rw [lexG_end, lexG_end]
    · cases ho : oneL R with
      | bad c o => rw [lexG_bad h0 ho, lexG_bad h0 ho]
      | tok kk m n =>
        obtain ⟨hp, hle⟩ := oneL_pos ho
        have hlen : ((R.drop m).drop (skipN false (R.drop m))).length < R.length := by rw [List.length_drop, List.length_drop]; omega
        rw [lexG_tok h0 ho, lexG_tok h0 ho, lexG_fuel f g _ _ _ (by omega) (by omega)]

theorem lexG_len : ∀ (f : Nat) (R : List UInt8) (p l : Nat), (lexG f R p l).1.length ≤ R.length + 1
  | 0, _, _, _ => by simp [lexG]
  | f + 1, R, p, l => by
    by_cases h0 : R = []
    · subst h0; rw [lexG_end]; simp
    · cases ho : oneL R with
      | bad c o => rw [lexG_bad h0 ho]; simp
      | tok k m n =>
        obtain ⟨hp, hle⟩ := oneL_pos ho
        have ih := lexG_len f ((R.drop m).drop (skipN false (R.drop m))) (p + m + skipN false (R.drop m)) (l + nls (R.take m) + nls ((R.drop m).take (skipN false (R.drop m))))
        rw [List.length_drop, List.length_drop] at ih
        rw [lexG_tok h0 ho, List.length_cons]
        omega
theorem lexL_len (s : List UInt8) : (lexL s).1.length ≤ s.length + 1 := by
  have := lexG_len (s.length + 1) (s.drop (skipN false s)) (skipN false s) (1 + nls (s.take (skipN false s)))
  rw [List.length_drop] at this
  unfold lexL
  dsimp only
  omega
theorem lexT_len (s : ByteArray) : (lexT s).length ≤ s.size + 1 := by
  unfold lexT
  have h := lexL_len s.data.toList
  have e : s.data.toList.length = s.size := rfl
  split
  · simp
  · split
    · simp
    · omega

def Tok.move (d e : Nat) (x : Tok) : Tok := ⟨x.k, x.a + d, x.l + e, x.t, x.n⟩
theorem lexG_move (d e : Nat) : ∀ (f : Nat) (R : List UInt8) (p l : Nat), lexG f R (p + d) (l + e) = ((lexG f R p l).1.map (Tok.move d e), (lexG f R p l).2.map fun c : Int × Int => (c.1, c.2 + (d : Int)))
  | 0, _, _, _ => rfl
  | f + 1, R, p, l => by
    by_cases h0 : R = []
    · subst h0; rw [lexG_end, lexG_end]; simp [Tok.move]
    · cases ho : oneL R with
      | bad c o =>
        rw [lexG_bad h0 ho, lexG_bad h0 ho]
        simp only [List.map_nil, Option.map_some]
        rw [show ((p + d + o : Nat) : Int) = ((p + o : Nat) : Int) + (d : Int) by omega]
      | tok k m n =>
        have ih := lexG_move d e f ((R.drop m).drop (skipN false (R.drop m))) (p + m + skipN false (R.drop m)) (l + nls (R.take m) + nls ((R.drop m).take (skipN false (R.drop m))))
        rw [lexG_tok h0 ho, lexG_tok h0 ho]
        rw [show p + d + m + skipN false (R.drop m) = p + m + skipN false (R.drop m) + d by omega, show l + e + nls (R.take m) + nls ((R.drop m).take (skipN false (R.drop m))) = l + nls (R.take m) + nls ((R.drop m).take (skipN false (R.drop m))) + e by omega, ih]
        simp [Tok.move]
end Go.Proofs.YtdlfjokhgmngcaaGreatDoor.Lx
