/- Lex's tokens in the printed words. -/
import Derived.Test.YtdlfjokhgmngcaaGreatDoorLexZ
namespace Go.Proofs.YtdlfjokhgmngcaaGreatDoor.Lx
open Go.RowKit Go.Shelf Go.Proofs.YtdlfjokhgmngcaaGreatDoorW.PrintWords Go.Proofs.YtdlfjokhgmngcaaGreatDoor.PLexTells
set_option linter.unusedVariables false
set_option linter.unusedSimpArgs false

def Tok.s (x : Tok) : S31 := ⟨x.k, x.a, x.l, x.t, x.n⟩

theorem reps_from {w : World} {base : Nat} {ok : Nat → Prop} : ∀ (l : List Tok) (pre : List S31) (cs : List Value), Reps (k31.M w base ok) 5 pre cs → Reps (k31.M w base ok) 5 (pre ++ l.map Tok.s) (cs ++ l.flatMap tokCells)
  | [], pre, cs, h => by simpa using h
  | x :: l, pre, cs, h => by
    have h1 := h.snoc (p := x.s) (c := tokCells x) (k31_mkM w base ok x.s) rfl
    have h2 := reps_from l _ _ h1
    simpa [List.append_assoc] using h2

theorem toks_R {w : World} {base : Nat} {v : Value} {l : List Tok} (h : w.ownsRow base 31 5 v l.length (l.flatMap tokCells)) :
    Kd.R k31 31 w base (fun _ => True) v (l.map Tok.s) := by
  refine ⟨fun _ _ => trivial, l.flatMap tokCells, ?_, ?_⟩
  · rw [List.length_map]; exact h
  · have := reps_from (w := w) (base := base) (ok := fun k => True ∧ some k ≠ v.ownBlock) l [] [] (Reps.none _ _)
    rw [List.nil_append, List.nil_append] at this
    exact this

/-- What Lex gives: the tokens (none, where something is wrong), and the fault. -/
def lexT (s : ByteArray) : List Tok := if 20000 < s.size then [] else match (lexL s.data.toList).2 with | some _ => [] | none => (lexL s.data.toList).1
def lexF (s : ByteArray) : Option (Int × Int) := if 20000 < s.size then some (4, 20000) else (lexL s.data.toList).2

/-- Behind Lex, in the printed words. -/
def LexedR (s : ByteArray) (w : World) (e : Ending) (w' : World) : Prop :=
  Below w.heap.size w w' ∧ ∃ v u, e = .returned (.tuple #[v, u]) ∧ Kd.R k31 31 w' w.heap.size (fun _ => True) v ((lexT s).map Tok.s) ∧
    (match lexF s with | none => u = .nilIface | some (c, p) => FaultAt w' u c p)

theorem lexed_R {s : ByteArray} {w : World} {e : Ending} {w' : World} (h : Lexed s w e w') : LexedR s w e w' := by
  obtain ⟨hb, h⟩ := h
  refine ⟨hb, ?_⟩
  by_cases h1 : 20000 < s.size
  · rw [if_pos h1] at h
    obtain ⟨v, rfl, hv⟩ := h
    refine ⟨_, v, rfl, ?_, ?_⟩
    · rw [lexT, if_pos h1]; exact Kd.R_nil _ _ _ _ _
    · rw [lexF, if_pos h1]; exact hv
  · rw [if_neg h1] at h
    cases hr : (lexL s.data.toList).2 with
    | none =>
      rw [hr] at h
      obtain ⟨v, rfl, hv⟩ := h
      refine ⟨v, _, rfl, ?_, ?_⟩
      · rw [lexT, if_neg h1, hr]; exact toks_R hv
      · rw [lexF, if_neg h1, hr]
    | some cp =>
      obtain ⟨c, p⟩ := cp
      rw [hr] at h
      obtain ⟨v, rfl, hv⟩ := h
      refine ⟨_, v, rfl, ?_, ?_⟩
      · rw [lexT, if_neg h1, hr]; exact Kd.R_nil _ _ _ _ _
      · rw [lexF, if_neg h1, hr]; exact hv

theorem Lex_any (s : ByteArray) (w : World) (hs2 : s.size < 2 ^ 62) (hL : Laid w) (hlow : 8 < w.heap.size) : Calls Tryz.prog 8 #[.string s] w (LexedR s w) := by
  by_cases h : 20000 < s.size
  · exact (Lex_long s w h hs2).mono fun _ _ h => lexed_R h
  · exact (Lex_fits s w (by omega) hL hlow).mono fun _ _ h => lexed_R h
end Go.Proofs.YtdlfjokhgmngcaaGreatDoor.Lx
