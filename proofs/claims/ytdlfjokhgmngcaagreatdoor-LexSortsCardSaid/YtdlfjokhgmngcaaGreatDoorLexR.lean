/- The lexer as a Lean function of a text's bytes (as the program computes it), and what is told of a run of its iterator. -/
import Derived.Test.YtdlfjokhgmngcaaGreatDoorLexQ
import Derived.RangeFuncNested
import Derived.RangeFuncBound
import Derived.RangeFuncCalls
import Derived.RangeFuncLeaves
import Derived.OwnWalkIn
import Derived.TacticsInMore
import Derived.LoopNIn
import Derived.LoopIn
namespace Go.Proofs.YtdlfjokhgmngcaaGreatDoor.Lx
open Go.RowKit Go.Shelf Go.Proofs.YtdlfjokhgmngcaaGreatDoorW.PrintWords
set_option linter.unusedVariables false
set_option linter.unusedSimpArgs false

/-- A token: its kind, place, line, bytes, number. -/
structure Tok where
  k : Int
  a : Int
  l : Int
  t : ByteArray
  n : Int
deriving Inhabited

inductive One where
  | tok (k : Int) (m : Nat) (n : Int)
  | bad (code : Int) (off : Nat)

/-- The token at the head of a text. -/
def oneL (R : List UInt8) : One :=
  match R with
  | [] => .bad 7 0
  | c :: _ =>
    if hasS (c.toNat : Int) 2 then (if 16 < whileN 6 R then .bad 4 0 else .tok 1 (whileN 6 R) 0)
    else if hasS (c.toNat : Int) 4 then
      (if nDig R = 0 then .bad 7 (nLen R) else if 4294967296 ≤ nVal R then .bad 10 0 else if nTail R then .bad 7 (nLen R) else .tok 2 (nLen R) (nVal R))
    else if hasS (c.toNat : Int) 8 then .tok 3 (markN R) 0
    else .bad 7 0

/-- The tokens from a place on at which one stands; and what is wrong. -/
def lexG : Nat → List UInt8 → Nat → Nat → List Tok × Option (Int × Int)
  | 0, _, _, _ => ([], none)
  | f + 1, R, p, l =>
    if R = [] then ([⟨0, p, l, ⟨#[]⟩, 0⟩], none)
    else match oneL R with
      | .bad c o => ([], some (c, ((p + o : Nat) : Int)))
      | .tok k m n =>
        let j := skipN false (R.drop m)
        let r := lexG f ((R.drop m).drop j) (p + m + j) (l + nls (R.take m) + nls ((R.drop m).take j))
        (⟨k, p, l, ⟨(R.take m).toArray⟩, n⟩ :: r.1, r.2)

/-- The whole text. -/
def lexL (s : List UInt8) : List Tok × Option (Int × Int) :=
  let j := skipN false s
  lexG (s.length + 1) (s.drop j) j (1 + nls (s.take j))

/-- A token's value. -/
def Tok.val (x : Tok) : Value := .agg #[.int .i64 x.k, .int .i64 x.a, .int .i64 x.l, .string x.t, .int .i64 x.n]

theorem lexG_end (f : Nat) (p l : Nat) : lexG (f + 1) [] p l = ([⟨0, p, l, ⟨#[]⟩, 0⟩], none) := rfl
theorem lexG_bad {f : Nat} {R : List UInt8} {p l : Nat} {c : Int} {o : Nat} (h0 : R ≠ []) (h : oneL R = .bad c o) : lexG (f + 1) R p l = ([], some (c, ((p + o : Nat) : Int))) := by
  unfold lexG; rw [if_neg h0, h]
theorem lexG_tok {f : Nat} {R : List UInt8} {p l : Nat} {k n : Int} {m : Nat} (h0 : R ≠ []) (h : oneL R = .tok k m n) :
    lexG (f + 1) R p l = (⟨k, p, l, ⟨(R.take m).toArray⟩, n⟩ :: (lexG f ((R.drop m).drop (skipN false (R.drop m))) (p + m + skipN false (R.drop m)) (l + nls (R.take m) + nls ((R.drop m).take (skipN false (R.drop m))))).1,
      (lexG f ((R.drop m).drop (skipN false (R.drop m))) (p + m + skipN false (R.drop m)) (l + nls (R.take m) + nls ((R.drop m).take (skipN false (R.drop m))))).2) := by
  conv => lhs; unfold lexG
  rw [if_neg h0, h]

/-! ### one round of the iterator: what a yield does -/
/-- What a round keeps of what the iterator reads: the lexer, its box, the program's variables. -/
structure Kp (b pb : Nat) (w w' : World) : Prop where
  size : w.heap.size ≤ w'.heap.size
  lx : w'.heap[b]? = w.heap[b]?
  box : w'.heap[pb]? = w.heap[pb]?
  tab : w'.heap[2]? = w.heap[2]?
  err : w'.heap[5]? = w.heap[5]?

/-- A body of a range over the tokens that goes on always: J: what holds when so many have come. -/
structure Rounds (l b pb N : Nat) (J : List Tok → World → Prop) : Prop where
  step : ∀ pre A B, J pre A → Fr b A B → J pre B
  round : ∀ pre x W, J pre W → pre.length < N → YieldAt Fence.wide 2 Tryz.prog l #[x.val] W fun e W' => e = .returned (.bool true) ∧ J (pre ++ [x]) W' ∧ Kp b pb W W'
end Go.Proofs.YtdlfjokhgmngcaaGreatDoor.Lx
