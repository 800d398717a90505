/- LexSorts: what the lexer's tokens are made of (no program in sight). -/
import Derived.Test.YtdlfjokhgmngcaaGreatDoorLexZc
import Derived.Test.YtdlfjokhgmngcaaGreatDoorPLexTellsx3
namespace Go.Proofs.YtdlfjokhgmngcaaGreatDoor.Lx
open Go.RowKit Go.Shelf Go.Proofs.YtdlfjokhgmngcaaGreatDoorW.PrintWords Go.Proofs.YtdlfjokhgmngcaaGreatDoor.PLexTells
set_option linter.unusedVariables false
set_option linter.unusedSimpArgs false

def isDig (c : UInt8) : Bool := hasS (c.toNat : Int) 4
def isLet (c : UInt8) : Bool := hasS (c.toNat : Int) 2
theorem has_num : ∀ c : Nat, c < 256 → hasS (c : Int) 4 = (decide (48 ≤ c) && decide (c ≤ 57)) ∧ hasS (c : Int) 6 = (hasS (c : Int) 2 || hasS (c : Int) 4) := by decide +kernel
set_option maxRecDepth 100000 in
theorem dig_f : ∀ c : Nat, c < 256 → ploverref02_Digit.f (c : Int) = some (hasS (c : Int) 4) := by decide +kernel
set_option maxRecDepth 100000 in
theorem let_f : ∀ c : Nat, c < 256 → ploverref02_Letter.f (c : Int) = some (hasS (c : Int) 2) := by decide +kernel

/-- What a token is made of. -/
structure Fine (x : Tok) : Prop where
  num : x.k = 2 → 0 ≤ x.n ∧ x.n < 4294967296 ∧ ∃ c r, x.t.data.toList = c :: r ∧ isDig c = true
  name : x.k = 1 → x.t.size ≤ 16 ∧ (∃ c r, x.t.data.toList = c :: r ∧ isLet c = true) ∧ ∀ c ∈ x.t.data.toList, isLet c = true ∨ isDig c = true

theorem takeWhile_take {p : UInt8 → Bool} (l : List UInt8) : l.take (l.takeWhile p).length = l.takeWhile p := by
  have h := List.takeWhile_append_dropWhile (p := p) (l := l)
  conv => lhs; rw [← h]
  rw [List.take_append_of_le_length (by rw [h]; exact Nat.le_refl _), h]
  simp

theorem takeWhile_all {p : UInt8 → Bool} (l : List UInt8) : ∀ d ∈ l.takeWhile p, p d = true := fun d hd => List.all_eq_true.1 List.all_takeWhile d hd

set_option maxHeartbeats 1600000 in
theorem fine_one {R : List UInt8} {k n : Int} {m : Nat} (p l : Int) (h : oneL R = .tok k m n) : Fine ⟨k, p, l, ⟨(R.take m).toArray⟩, n⟩ := by
  cases R with
  | nil => simp [oneL] at h
  | cons c r =>
    simp only [oneL] at h
    by_cases h2 : hasS (c.toNat : Int) 2 = true
    · rw [if_pos h2] at h
      by_cases h16 : 16 < whileN 6 (c :: r)
      · rw [if_pos h16] at h; cases h
      · rw [if_neg h16] at h
        cases h
        refine ⟨fun e => by simp at e, fun _ => ?_⟩
        have hw := whileN_pos (r := r) h2
        have hsz : ((c :: r).take (whileN 6 (c :: r))) = (c :: r).takeWhile fun c => hasS (c.toNat : Int) 6 := takeWhile_take _
        refine ⟨?_, ?_, ?_⟩
        · show ((c :: r).take (whileN 6 (c :: r))).length ≤ 16
          rw [List.length_take]; omega
        · obtain ⟨q, hq⟩ : ∃ q, whileN 6 (c :: r) = q + 1 := ⟨whileN 6 (c :: r) - 1, by omega⟩
          exact ⟨c, r.take q, by simp [hq], h2⟩
        · intro d hd
          have hd' : d ∈ (c :: r).take (whileN 6 (c :: r)) := by simpa using hd
          rw [hsz] at hd'
          have h6 : hasS (d.toNat : Int) 6 = true := takeWhile_all (p := fun c => hasS (c.toNat : Int) 6) (c :: r) d hd'
          rw [(has_num d.toNat d.toNat_lt).2] at h6
          exact Bool.or_eq_true_iff.1 h6
    · rw [if_neg h2] at h
      by_cases h4 : hasS (c.toNat : Int) 4 = true
      · rw [if_pos h4] at h
        by_cases e1 : nDig (c :: r) = 0
        · rw [if_pos e1] at h; cases h
        · rw [if_neg e1] at h
          by_cases e2 : 4294967296 ≤ nVal (c :: r)
          · rw [if_pos e2] at h; cases h
          · rw [if_neg e2] at h
            by_cases e3 : nTail (c :: r) = true
            · rw [if_pos e3] at h; cases h
            · rw [if_neg e3] at h
              cases h
              refine ⟨fun _ => ⟨by simp, by simp; omega, ?_⟩, fun e => by simp at e⟩
              obtain ⟨q, hq⟩ : ∃ q, nLen (c :: r) = q + 1 := ⟨nLen (c :: r) - 1, by unfold nLen; omega⟩
              exact ⟨c, r.take q, by simp [hq], h4⟩
      · rw [if_neg h4] at h
        by_cases h8 : hasS (c.toNat : Int) 8 = true
        · rw [if_pos h8] at h
          cases h
          exact ⟨fun e => by simp at e, fun e => by simp at e⟩
        · rw [if_neg h8] at h; cases h

theorem fine_G : ∀ (f : Nat) (R : List UInt8) (p l : Nat), ∀ x ∈ (lexG f R p l).1, Fine x
  | 0, R, p, l => by intro x hx; simp [lexG] at hx
  | f + 1, R, p, l => by
    intro x hx
    unfold lexG at hx
    by_cases h0 : R = []
    · rw [if_pos h0] at hx
      simp only [List.mem_singleton] at hx
      subst hx
      exact ⟨fun e => by simp at e, fun e => by simp at e⟩
    · rw [if_neg h0] at hx
      cases ho : oneL R with
      | bad c o => rw [ho] at hx; simp at hx
      | tok k m n =>
        rw [ho] at hx
        simp only [List.mem_cons] at hx
        rcases hx with rfl | hx
        · exact fine_one _ _ ho
        · exact fine_G f _ _ _ x hx
theorem fine_L (s : List UInt8) : ∀ x ∈ (lexL s).1, Fine x := fine_G _ _ _ _
theorem fine_T (s : ByteArray) : ∀ x ∈ lexT s, Fine x := by
  intro x hx
  unfold lexT at hx
  split at hx
  · simp at hx
  · split at hx
    · simp at hx
    · exact fine_L _ x hx

/-- One byte's text. -/
def blanksB (c : UInt8) : Bool := c == 32 || c == 9 || c == 10
def marksB : List UInt8 := [123, 125, 40, 41, 91, 93, 59, 58, 44, 46, 61, 60, 62, 43, 45, 42, 47, 37, 38, 94, 124, 126, 33]
def tokB (c : UInt8) : Bool := isLet c || isDig c || marksB.contains c
def one1 (c : UInt8) : Bool :=
  if blanksB c then lexF ⟨#[c]⟩ == none && (lexT ⟨#[c]⟩).length == 1
  else if tokB c then lexF ⟨#[c]⟩ == none && (lexT ⟨#[c]⟩).length == 2 && ((lexT ⟨#[c]⟩).head?.map fun x => x.t.data.toList) == some [c]
  else lexF ⟨#[c]⟩ == some (7, 0)
set_option maxRecDepth 100000 in
theorem one1_all : ∀ n : Nat, n < 256 → one1 (UInt8.ofNat n) = true := by decide +kernel
theorem one1_any (c : UInt8) : one1 c = true := by
  have := one1_all c.toNat c.toNat_lt
  rwa [UInt8.ofNat_toNat] at this
end Go.Proofs.YtdlfjokhgmngcaaGreatDoor.Lx
