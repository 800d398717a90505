/- The lexer as a Lean function of a text's bytes (as the program computes it), and what is told of a run of its iterator.
   The iterator over the tokens, walked: it yields the Lean function's tokens.
   A range over the lexer's iterator: the law, told with what the iterator asks of the body.
   The lexer's tokens and Lex, walked. -/
import Derived.RangeFuncNested
import Derived.RangeFuncBound
import Derived.RangeFuncCalls
import Derived.RangeFuncLeaves
import Derived.OwnWalkIn
import Derived.TacticsInMore
import Derived.LoopNIn
import Derived.LoopIn
import Derived.Stop.RegionWithIn
import Derived.RangeFuncKeeps
import Derived.RangeFuncBox
import Derived.Test.YtdlfjokhgmngcaaGreatDoorLexQ
namespace Go.Proofs.YtdlfjokhgmngcaaGreatDoor.Lx
open Go.RowKit Go.Shelf Go.Proofs.YtdlfjokhgmngcaaGreatDoorW.PrintWords
set_option linter.unusedVariables false
set_option linter.unusedSimpArgs false

/-- A token: its kind, place, line, bytes, number. -/
structure Tok where
  k : Int
  a : Int
  l : Int
  t : ByteArray
  n : Int
deriving Inhabited

inductive One where
  | tok (k : Int) (m : Nat) (n : Int)
  | bad (code : Int) (off : Nat)

/-- The token at the head of a text. -/
def oneL (R : List UInt8) : One :=
  match R with
  | [] => .bad 7 0
  | c :: _ =>
    if hasS (c.toNat : Int) 2 then (if 16 < whileN 6 R then .bad 4 0 else .tok 1 (whileN 6 R) 0)
    else if hasS (c.toNat : Int) 4 then
      (if nDig R = 0 then .bad 7 (nLen R) else if 4294967296 ≤ nVal R then .bad 10 0 else if nTail R then .bad 7 (nLen R) else .tok 2 (nLen R) (nVal R))
    else if hasS (c.toNat : Int) 8 then .tok 3 (markN R) 0
    else .bad 7 0

/-- The tokens from a place on at which one stands; and what is wrong. -/
def lexG : Nat → List UInt8 → Nat → Nat → List Tok × Option (Int × Int)
  | 0, _, _, _ => ([], none)
  | f + 1, R, p, l =>
    if R = [] then ([⟨0, p, l, ⟨#[]⟩, 0⟩], none)
    else match oneL R with
      | .bad c o => ([], some (c, ((p + o : Nat) : Int)))
      | .tok k m n =>
        let j := skipN false (R.drop m)
        let r := lexG f ((R.drop m).drop j) (p + m + j) (l + nls (R.take m) + nls ((R.drop m).take j))
        (⟨k, p, l, ⟨(R.take m).toArray⟩, n⟩ :: r.1, r.2)

/-- The whole text. -/
def lexL (s : List UInt8) : List Tok × Option (Int × Int) :=
  let j := skipN false s
  lexG (s.length + 1) (s.drop j) j (1 + nls (s.take j))

/-- A token's value. -/
def Tok.val (x : Tok) : Value := .agg #[.int .i64 x.k, .int .i64 x.a, .int .i64 x.l, .string x.t, .int .i64 x.n]

theorem lexG_end (f : Nat) (p l : Nat) : lexG (f + 1) [] p l = ([⟨0, p, l, ⟨#[]⟩, 0⟩], none) := rfl
theorem lexG_bad {f : Nat} {R : List UInt8} {p l : Nat} {c : Int} {o : Nat} (h0 : R ≠ []) (h : oneL R = .bad c o) : lexG (f + 1) R p l = ([], some (c, ((p + o : Nat) : Int))) := by
  unfold lexG; rw [if_neg h0, h]
theorem lexG_tok {f : Nat} {R : List UInt8} {p l : Nat} {k n : Int} {m : Nat} (h0 : R ≠ []) (h : oneL R = .tok k m n) :
    lexG (f + 1) R p l = (⟨k, p, l, ⟨(R.take m).toArray⟩, n⟩ :: (lexG f ((R.drop m).drop (skipN false (R.drop m))) (p + m + skipN false (R.drop m)) (l + nls (R.take m) + nls ((R.drop m).take (skipN false (R.drop m))))).1,
      (lexG f ((R.drop m).drop (skipN false (R.drop m))) (p + m + skipN false (R.drop m)) (l + nls (R.take m) + nls ((R.drop m).take (skipN false (R.drop m))))).2) := by
  conv => lhs; unfold lexG
  rw [if_neg h0, h]

/-! ### one round of the iterator: what a yield does -/
/-- What a round keeps of what the iterator reads: the lexer, its box, the program's variables. -/
structure Kp (b pb : Nat) (w w' : World) : Prop where
  size : w.heap.size ≤ w'.heap.size
  lx : w'.heap[b]? = w.heap[b]?
  box : w'.heap[pb]? = w.heap[pb]?
  tab : w'.heap[2]? = w.heap[2]?
  err : w'.heap[5]? = w.heap[5]?

/-- A body of a range over the tokens that goes on always: J: what holds when so many have come. -/
structure Rounds (l b pb N : Nat) (J : List Tok → World → Prop) : Prop where
  step : ∀ pre A B, J pre A → Fr b A B → J pre B
  round : ∀ pre x W, J pre W → pre.length < N → YieldAt Fence.wide 2 Tryz.prog l #[x.val] W fun e W' => e = .returned (.bool true) ∧ J (pre ++ [x]) W' ∧ Kp b pb W W'
end Go.Proofs.YtdlfjokhgmngcaaGreatDoor.Lx

/-! The iterator over the tokens, walked: it yields the Lean function's tokens. -/
namespace Go.Proofs.YtdlfjokhgmngcaaGreatDoor.Lx
open Go.RowKit Go.Shelf Go.Proofs.YtdlfjokhgmngcaaGreatDoorW.PrintWords
set_option linter.unusedVariables false
set_option linter.unusedSimpArgs false
attribute [local go_sem] Oper.semAt_some

theorem Fr.two_new {b g : Nat} {w w1 w2 : World} (h : Fr b w w1) (k : Fr2 b g w1 w2) (hg : w.heap.size ≤ g) : Fr b w w2 :=
  ⟨⟨k.os.trans h.out.os, k.tape.trans h.out.tape, k.output.trans h.out.output, Nat.le_trans h.out.size k.size,
    fun i hi hne => (k.block i (Nat.lt_of_lt_of_le hi h.out.size) (fun e => hne (by rw [e])) (by omega)).trans (h.out.block i hi hne)⟩⟩

theorem is_val (b : Nat) (ini : Bool) (tl : List Value) (c m : Int) (v : Bool) (hv : hasS c m = v) (w : World) (hb : LexB w b ini tl) (hc0 : 0 ≤ c) (hc : c < 256) :
    Calls Tryz.prog 38 #[.pointer (some ⟨b, 0, none⟩), .int .u8 c, .int .u8 m] w fun e w' => e = .returned (.bool v) ∧ LexB w' b true tl ∧ Fr b w w' := hv ▸ is_any b ini tl c m w hb hc0 hc

/-- Behind the iterator. -/
def Ended (b : Nat) (s : ByteArray) (J : List Tok → World → Prop) (W' : World) : Prop :=
  J (lexL s.data.toList).1 W' ∧ ∃ i2 p' l' v, LX W' b i2 s p' l' v ∧ (match (lexL s.data.toList).2 with
    | none => v = .nilIface
    | some (c, pl) => FaultAt W' v c pl)

/-- What holds at the loop's head. -/
structure Head (s : ByteArray) (b pb : Nat) (J : List Tok → World → Prop) (gk : Nat) (pre : List Tok) (p l : Nat) (i2 : Bool) (w' : World) : Prop where
  j : J pre w'
  lx : LX w' b i2 s p l .nilIface
  ini : p < s.size → i2 = true
  box : w'.heap[pb]? = some (.cells #[.pointer (some ⟨b, 0, none⟩)] 57 (0, 0))
  laid : Laid w'
  len : pre.length ≤ p
  line : l ≤ p + 1
  le : p ≤ s.size
  fuel : s.size - p < gk
  all : lexL s.data.toList = (pre ++ (lexG gk (s.data.toList.drop p) p l).1, (lexG gk (s.data.toList.drop p) p l).2)

theorem extract_arr (s : ByteArray) (p m : Nat) : s.extract p (p + m) = ⟨((s.data.toList.drop p).take m).toArray⟩ := by
  apply ByteArray.ext
  apply Array.toList_inj.1
  rw [extract_take]
theorem val_lt (c : UInt8) : c.toNat < 256 := c.toNat_lt

theorem has26 : ∀ c : Nat, c < 256 → hasS (c : Int) 2 = true → hasS (c : Int) 6 = true := by decide +kernel
theorem whileN_pos {c : UInt8} {r : List UInt8} (h : hasS (c.toNat : Int) 2 = true) : 1 ≤ whileN 6 (c :: r) := by
  have h6 := has26 _ c.toNat_lt h
  rw [whileN, List.takeWhile_cons, if_pos h6, List.length_cons]
  omega
theorem markN_le (c : UInt8) (r : List UInt8) : markN (c :: r) ≤ (c :: r).length := by
  unfold markN
  split
  · rename_i h
    obtain ⟨m, hm, hp⟩ := List.any_eq_true.1 h
    have h3 := (List.isPrefixOf_iff_prefix.1 hp).length_le
    have h4 : m.length = 2 := by
      revert hm; clear hp h3 h; revert m; decide
    omega
  · simp
theorem markN_pos (l : List UInt8) : 1 ≤ markN l := by unfold markN; split <;> omega

set_option maxHeartbeats 6400000 in
set_option maxRecDepth 100000 in
theorem tokens1_any (l b pb N : Nat) (J : List Tok → World → Prop) (hR : Rounds l b pb N J) (s : ByteArray) (w : World) (hb : LX w b false s 0 1 .nilIface) (hp : w.heap[pb]? = some (.cells #[.pointer (some ⟨b, 0, none⟩)] 57 (0, 0)))
    (hL : Laid w) (hs : s.size ≤ 20000) (hN : s.size < N) (hpb : pb ≠ b) (hlow : 8 < b ∧ 8 < pb) (h0 : J [] w) :
    Calls Tryz.prog 36 #[.func (.yield l) #[] #[], .pointer (some ⟨pb, 0, none⟩)] w fun e w' => e = .returned (.tuple #[]) ∧ Ended b s J w' := by
  have hbl := blk_lt hb
  have hpl := blk_lt hp
  have HB := Aside0.mk hb
  have HP := Aside0.mk hp
  have HL := Aside0.mk hL
  have HJ := Aside0.mk h0
  have HR := Aside0.mk hR
  have cp : w.cell? ⟨pb, 0, none⟩ = some (.pointer (some ⟨b, 0, none⟩)) := blk_cell hp 0
  clear hb hp hL h0 hR
  go_enter Tryz.func36, Tryz.ntmps36
  go_wp2_with fail
  refine (skip_any b false s 0 1 .nilIface w HB.out (by omega) hs (by omega)).mono ?_
  rintro e w1 ⟨rfl, j, i2, hj, hLX, hini, hF⟩
  have HH := Aside0.mk (show Head s b pb J (s.size + 1) [] j (1 + nls (s.data.toList.take j)) i2 w1 from by
    have hjl : j ≤ s.size := by rw [hj]; exact Nat.le_trans (skipN_le _ _) (by simp)
    refine ⟨HR.out.step _ _ _ HJ.out hF, by simpa using hLX, by simpa using hini, hF.blk HP.out hpb, HL.out.keep (hF.out.block _ (by omega) (fun e => by have := Option.some.inj e; omega)) (hF.out.block _ (by omega) (fun e => by have := Option.some.inj e; omega)), Nat.zero_le _, ?_, hjl, by omega, ?_⟩
    · have : nls (s.data.toList.take j) ≤ j := Nat.le_trans List.count_le_length (List.length_take_le _ _)
      omega
    · rw [List.drop_zero] at hj
      rw [lexL, ← hj]
      simp)
  clear hj hLX hini hF HB HP HL HJ cp
  go_wp2
  go_loopg [] (s.size + 1) (fun gk w' => ∃ pre p l i2, Aside0 (Head s b pb J gk pre p l i2 w'))
  case atStart => exact ⟨[], _, _, _, HH⟩
  case round =>
    clear HH
    obtain ⟨pre, p, l2, i3, HH⟩ := hrel
    have hle := HH.out.le
    have hline := HH.out.line
    have cp : wr.cell? ⟨pb, 0, none⟩ = some (.pointer (some ⟨b, 0, none⟩)) := blk_cell HH.out.box 0
    have c0 : wr.cell? ⟨b, 259, none⟩ = some (.string s) := lx_at HH.out.lx 0
    have c1 : wr.cell? ⟨b, 260, none⟩ = some (.int .i64 p) := lx_at HH.out.lx 1
    have c2 : wr.cell? ⟨b, 261, none⟩ = some (.int .i64 l2) := lx_at HH.out.lx 2
    by_cases hlt : p < s.size
    · have hdec : decide (p < s.size) = true := decide_eq_true hlt
      go_wp2
      go_quiet (fail)
      have HX1 := Aside0.mk (show LX (wr.drewN nq) b i3 s p l2 .nilIface from HH.out.lx)
      have HJ1 := Aside0.mk (HR.out.step _ _ _ HH.out.j ((Fr.refl b wr).drewN nq))
      have HF1 := Aside0.mk ((Fr.refl b wr).drewN nq)
      have HBx1 := Aside0.mk (show (wr.drewN nq).heap[pb]? = some (.cells #[.pointer (some ⟨b, 0, none⟩)] 57 (0, 0)) from HH.out.box)
      clear cp c0 c1 c2
      have hb1 := blk_lt HX1.out
      have hp1 := blk_lt HBx1.out
      generalize wr.drewN nq = W1 at *
      have cp : W1.cell? ⟨pb, 0, none⟩ = some (.pointer (some ⟨b, 0, none⟩)) := blk_cell HBx1.out 0
      have c1 : W1.cell? ⟨b, 260, none⟩ = some (.int .i64 p) := lx_at HX1.out 1
      have c2 : W1.cell? ⟨b, 261, none⟩ = some (.int .i64 l2) := lx_at HX1.out 2
      have HG0 := Aside0.mk (blk_drew (blk_new W1 (.cells #[.int .i64 0, .int .i64 p, .int .i64 l2, .string ⟨#[]⟩, .int .i64 0] 31)))
      have HX2 := Aside0.mk (show LX (W1.alloc (.cells #[.int .i64 0, .int .i64 p, .int .i64 l2, .string ⟨#[]⟩, .int .i64 0] 31)).drew b true s p l2 .nilIface from by have := HX1.out; rw [HH.out.ini hlt] at this; exact lx_drew (lx_alloc this _))
      have HF2 := Aside0.mk ((((Fr.refl b W1).alloc (.cells #[.int .i64 0, .int .i64 p, .int .i64 l2, .string ⟨#[]⟩, .int .i64 0] 31)).drew))
      have HBx2 := Aside0.mk (blk_drew (blk_alloc HBx1.out (.cells #[.int .i64 0, .int .i64 p, .int .i64 l2, .string ⟨#[]⟩, .int .i64 0] 31)))
      go_wp2
      go_region
      go_goals
      have hg2 : W1.heap.size < (W1.alloc (.cells #[.int .i64 0, .int .i64 p, .int .i64 l2, .string ⟨#[]⟩, .int .i64 0] 31)).drew.heap.size := blk_lt HG0.out
      have hgb : W1.heap.size ≠ b := by omega
      have hgp : W1.heap.size ≠ pb := by omega
      have hg9 : 8 < W1.heap.size := by omega
      generalize (W1.alloc (.cells #[.int .i64 0, .int .i64 p, .int .i64 l2, .string ⟨#[]⟩, .int .i64 0] 31)).drew = W2 at *
      obtain ⟨g, hg⟩ : ∃ g, W1.heap.size = g := ⟨_, rfl⟩
      rw [hg] at hgb hgp hg9 HG0 hg2 ⊢
      clear cp c1 c2
      have cp : W2.cell? ⟨pb, 0, none⟩ = some (.pointer (some ⟨b, 0, none⟩)) := blk_cell HBx2.out 0
      have c0 : W2.cell? ⟨b, 259, none⟩ = some (.string s) := lx_at HX2.out 0
      have c1 : W2.cell? ⟨b, 260, none⟩ = some (.int .i64 p) := lx_at HX2.out 1
      obtain ⟨c, hc⟩ : ∃ c : Nat, (s[p]).toNat = c := ⟨_, rfl⟩
      have hidx : ∀ h : p < s.size, (s[p]'h).toNat = c := fun _ => hc
      go_wp2
      go_quiet (fail)
      go_goals
      have HX3 := Aside0.mk (lx_drewN HX2.out nq)
      have HF3 := Aside0.mk (HF2.out.drewN nq)
      have HG3 := Aside0.mk (show TokB (W2.drewN nq) g 0 p l2 ⟨#[]⟩ 0 from HG0.out)
      have HBx3 := Aside0.mk (show (W2.drewN nq).heap[pb]? = some (.cells #[.pointer (some ⟨b, 0, none⟩)] 57 (0, 0)) from HBx2.out)
      have HF03 := Aside0.mk (HF1.out.trans HF3.out)
      have hb3 := blk_lt HX3.out
      have hg3 := blk_lt HG3.out
      have hp3 := blk_lt HBx3.out
      have HL3 := Aside0.mk (HH.out.laid.keep (HF03.out.out.block _ (by have := blk_lt HH.out.lx; omega) (fun e => by have := Option.some.inj e; omega)) (HF03.out.out.block _ (by have := blk_lt HH.out.lx; omega) (fun e => by have := Option.some.inj e; omega)))
      clear cp c0 c1 HX1 HX2 HF2 HF1 HF03 HBx1 HBx2 HG0 hb1 hp1
      have hgW1 : W1.heap.size ≤ g := by omega
      generalize W2.drewN nq = W3 at *
      have cp : W3.cell? ⟨pb, 0, none⟩ = some (.pointer (some ⟨b, 0, none⟩)) := blk_cell HBx3.out 0
      have hc256 : c < 256 := by rw [← hc]; exact (s[p]).toNat_lt
      have HC := Aside0.mk hc
      clear hc hidx hg
      have hR0 : s.data.toList.drop p = s[p] :: s.data.toList.drop (p + 1) := drop_cons_at s p hlt
      have hbW := hb3
      have hgW := hg3
      have hpW := hp3
      have HX := HX3
      have HG := HG3
      have HBx := HBx3
      have HF := HF3
      have HL := HL3
      clear HX3 HG3 HBx3 HF3 HL3 hb3 hg3 hp3 hg2
      cases h2 : hasS (c : Int) 2 with
      | true =>
        have HO := Aside0.mk (show oneL (s.data.toList.drop p) = if 16 < whileN 6 (s.data.toList.drop p) then .bad 4 0 else .tok 1 (whileN 6 (s.data.toList.drop p)) 0 from by rw [hR0, oneL]; simp only [HC.out, h2, if_true])
        go_wp2_with fail
        refine (is_val b true _ c 2 _ h2 _ HX.out (by omega) (by omega)).mono ?_
        rintro e W' ⟨rfl, h1, f1⟩
        replace HX := Aside0.mk (show LX W' b true s p l2 .nilIface from h1)
        replace HF := Aside0.mk (HF.out.trans f1)
        replace HG := Aside0.mk (show TokB W' g 0 p l2 ⟨#[]⟩ 0 from f1.blk HG.out hgb)
        replace HBx := Aside0.mk (f1.blk HBx.out hpb)
        replace HL := Aside0.mk (HL.out.keep (f1.out.block _ (by omega) (fun e => by have := Option.some.inj e; omega)) (f1.out.block _ (by omega) (fun e => by have := Option.some.inj e; omega)))
        have hbW := blk_lt HX.out
        have hgW := blk_lt HG.out
        have hpW := blk_lt HBx.out
        have cp : W'.cell? ⟨pb, 0, none⟩ = some (.pointer (some ⟨b, 0, none⟩)) := blk_cell HBx.out 0
        clear h1 f1
        obtain ⟨m, hm⟩ : ∃ m, whileN 6 (s.data.toList.drop p) = m := ⟨_, rfl⟩
        rw [hm] at HO
        by_cases hlen : 16 < m
        · have HOne := Aside0.mk (HO.out.trans (if_pos hlen))
          have HBad := Aside0.mk (show Calls Tryz.prog 39 #[.pointer (some ⟨b, 0, none⟩), .pointer (some ⟨g, 0, none⟩)] W' (NumBad b g s 4 ((p + 0 : Nat) : Int) W') from (name_long b g s p l2 .nilIface 0 p l2 0 ⟨#[]⟩ W' HX.out HG.out hle hs (by rw [hm]; exact hlen)).mono fun e w' ⟨h1, h2, v, h3, h4, _⟩ => ⟨h1, h2.two g, v, _, _, h3, h4⟩)
          clear HO hm
          go_wp2_with fail
          refine HBad.out.mono ?_
          rintro e W' ⟨rfl, f2, v, p5, l5, ⟨g3, rfl, hv⟩, hx5⟩
          replace HX := Aside0.mk hx5
          have HFt := Aside0.mk hv
          replace HJ1 := Aside0.mk (HR.out.step _ _ _ HJ1.out (Fr.two_new HF.out f2 hgW1))
          have HBx5 := Aside0.mk ((f2.block pb hpW hpb (Ne.symm hgp)).trans HBx.out)
          have cp : W'.cell? ⟨pb, 0, none⟩ = some (.pointer (some ⟨b, 0, none⟩)) := blk_cell HBx5.out 0
          have c3 : W'.cell? ⟨b, 262, none⟩ = some (.iface 56 (.pointer (some ⟨g3, 0, none⟩))) := lx_at HX.out 3
          clear f2 hv hx5
          go_wp2
          refine bodyPost_ret (results_none rfl _ _ _) rfl ?_
          obtain ⟨f, rfl⟩ : ∃ f, gk = f + 1 := ⟨gk - 1, by have := HH.out.fuel; omega⟩
          have hall := HH.out.all
          rw [lexG_bad (by rw [hR0]; exact List.cons_ne_nil _ _) HOne.out] at hall
          refine ⟨rfl, ?_, true, p5, l5, _, HX.out, ?_⟩
          · rw [hall, List.append_nil]
            exact HJ1.out
          · rw [hall]
            exact ⟨g3, rfl, HFt.out⟩
        · have HOne := Aside0.mk (HO.out.trans (if_neg hlen))
          have HM := Aside0.mk (show m ≤ (s.data.toList.drop p).length by rw [← hm]; exact List.Sublist.length_le (List.takeWhile_sublist _))
          have HM1 := Aside0.mk (show 1 ≤ m by rw [← hm, hR0]; exact whileN_pos (by rw [HC.out]; exact h2))
          have HTok := Aside0.mk (name_ok b g s p l2 m .nilIface 0 p l2 0 ⟨#[]⟩ W' HX.out HG.out hgb hle hs hline hm (by omega))
          clear HO hm
          go_wp2_with fail
          refine HTok.out.mono ?_
          rintro e W' ⟨rfl, f2, hx, hg⟩
          replace HJ1 := Aside0.mk (HR.out.step _ _ _ HJ1.out (Fr.two_new HF.out f2 hgW1))
          replace HBx := Aside0.mk ((f2.block pb hpW hpb (Ne.symm hgp)).trans HBx.out)
          replace HL := Aside0.mk (HL.out.keep (f2.block _ (by omega) (by omega) (by omega)) (f2.block _ (by omega) (by omega) (by omega)))
          replace HX := Aside0.mk hx
          replace HG := Aside0.mk hg
          have cp : W'.cell? ⟨pb, 0, none⟩ = some (.pointer (some ⟨b, 0, none⟩)) := blk_cell HBx.out 0
          have c3 : W'.cell? ⟨b, 262, none⟩ = some .nilIface := lx_at HX.out 3
          have z0 := blk_cell HG.out 0
          have z1 := blk_cell HG.out 1
          have z2 := blk_cell HG.out 2
          have z3 := blk_cell HG.out 3
          have z4 := blk_cell HG.out 4
          clear f2 hx hg
          obtain ⟨fn, tmps, assign, body, hy, hRd⟩ := HR.out.round pre ⟨1, p, l2, s.extract p (p + m), 0⟩ W' HJ1.out (by have := HH.out.len; omega)
          dsimp only [Tok.val] at hy
          have HRd := Aside0.mk hRd
          clear hRd
          go_upto_region 12 with (fail)
          refine (wpIn_wide (n := 3)).1 ?_
          gi_wp2
          refine HRd.out.mono ?_
          rintro e W5 ⟨rfl, hj5, hk5⟩
          replace HJ1 := Aside0.mk hj5
          have HK5 := Aside0.mk hk5
          clear hj5 hk5 hy HRd cp c3 z0 z1 z2 z3 z4
          gi_wp2
          replace HX := Aside0.mk (show LX W5 b true s (p + m) (l2 + nls ((s.data.toList.drop p).take m)) .nilIface by
            have := HX.out
            rw [extract_take] at this
            exact (HK5.out.lx.trans this))
          replace HBx := Aside0.mk (HK5.out.box.trans HBx.out)
          replace HL := Aside0.mk (HL.out.keep HK5.out.tab HK5.out.err)
          have hbW5 := blk_lt HX.out
          have hpW5 := blk_lt HBx.out
          have cp : W5.cell? ⟨pb, 0, none⟩ = some (.pointer (some ⟨b, 0, none⟩)) := blk_cell HBx.out 0
          have hml : m ≤ (s.data.toList.drop p).length := HM.out
          have hnl : nls ((s.data.toList.drop p).take m) ≤ m := Nat.le_trans List.count_le_length (List.length_take_le _ _)
          have hpm : p + m ≤ s.size := by
            have := hml
            simp at this
            omega
          obtain ⟨l6, hl6⟩ : ∃ l6, l2 + nls ((s.data.toList.drop p).take m) = l6 := ⟨_, rfl⟩
          rw [hl6] at HX
          have HSk := Aside0.mk (skip_any b true s (p + m) l6 .nilIface W5 HX.out hpm hs (by omega))
          go_wp2_with fail
          refine HSk.out.mono ?_
          rintro e W6 ⟨rfl, j6, i6, hj6, hLX, hini, hF6⟩
          have hd6 : s.data.toList.drop (p + m) = (s.data.toList.drop p).drop m := by rw [List.drop_drop]
          have HH6 := Aside0.mk (show Head s b pb J (gk - 1) (pre ++ [⟨1, p, l2, s.extract p (p + m), 0⟩]) (p + m + j6) (l6 + nls ((s.data.toList.drop (p + m)).take j6)) i6 W6 from by
            have hjl : j6 ≤ s.size - (p + m) := by rw [hj6]; exact Nat.le_trans (skipN_le _ _) (by simp)
            obtain ⟨f, rfl⟩ : ∃ f, gk = f + 1 := ⟨gk - 1, by have := HH.out.fuel; omega⟩
            refine ⟨HR.out.step _ _ _ HJ1.out hF6, hLX, hini, hF6.blk HBx.out hpb, HL.out.keep (hF6.out.block _ (by omega) (fun e => by have := Option.some.inj e; omega)) (hF6.out.block _ (by omega) (fun e => by have := Option.some.inj e; omega)), ?_, ?_, by omega, ?_, ?_⟩
            · have := HH.out.len
              have h1 := HM1.out
              simp
              omega
            · have : nls ((s.data.toList.drop (p + m)).take j6) ≤ j6 := Nat.le_trans List.count_le_length (List.length_take_le _ _)
              omega
            · have := HH.out.fuel
              have h1 := HM1.out
              simp only [Nat.add_sub_cancel]
              omega
            · have hall := HH.out.all
              rw [lexG_tok (by rw [hR0]; exact List.cons_ne_nil _ _) HOne.out] at hall
              rw [← hd6, ← hj6, hl6, ← extract_arr, List.drop_drop] at hall
              rw [hall, List.append_assoc]
              rfl)
          clear HX HSk HJ1 HL HBx hj6 hLX hini hF6
          go_wp2
          go_roundg (gk - 1)
          case measure => have := HH.out.fuel; omega
          case rel => exact ⟨_, _, _, _, HH6⟩
      | false =>
        go_wp2_with fail
        refine (is_val b true _ c 2 _ h2 _ HX.out (by omega) (by omega)).mono ?_
        rintro e W' ⟨rfl, h1, f1⟩
        replace HX := Aside0.mk (show LX W' b true s p l2 .nilIface from h1)
        replace HF := Aside0.mk (HF.out.trans f1)
        replace HG := Aside0.mk (show TokB W' g 0 p l2 ⟨#[]⟩ 0 from f1.blk HG.out hgb)
        replace HBx := Aside0.mk (f1.blk HBx.out hpb)
        replace HL := Aside0.mk (HL.out.keep (f1.out.block _ (by omega) (fun e => by have := Option.some.inj e; omega)) (f1.out.block _ (by omega) (fun e => by have := Option.some.inj e; omega)))
        have hbW := blk_lt HX.out
        have hgW := blk_lt HG.out
        have hpW := blk_lt HBx.out
        have cp : W'.cell? ⟨pb, 0, none⟩ = some (.pointer (some ⟨b, 0, none⟩)) := blk_cell HBx.out 0
        clear h1 f1
        cases h4 : hasS (c : Int) 4 with
        | true =>
          have HO := Aside0.mk (show oneL (s.data.toList.drop p) = (if nDig (s.data.toList.drop p) = 0 then .bad 7 (nLen (s.data.toList.drop p)) else if 4294967296 ≤ nVal (s.data.toList.drop p) then .bad 10 0 else if nTail (s.data.toList.drop p) then .bad 7 (nLen (s.data.toList.drop p)) else .tok 2 (nLen (s.data.toList.drop p)) (nVal (s.data.toList.drop p))) from by
            rw [hR0, oneL]; simp only [HC.out, h2, h4, if_true, if_false, Bool.false_eq_true])
          go_wp2_with fail
          refine (is_val b true _ c 4 _ h4 _ HX.out (by omega) (by omega)).mono ?_
          rintro e W' ⟨rfl, h1, f1⟩
          replace HX := Aside0.mk (show LX W' b true s p l2 .nilIface from h1)
          replace HF := Aside0.mk (HF.out.trans f1)
          replace HG := Aside0.mk (show TokB W' g 0 p l2 ⟨#[]⟩ 0 from f1.blk HG.out hgb)
          replace HBx := Aside0.mk (f1.blk HBx.out hpb)
          replace HL := Aside0.mk (HL.out.keep (f1.out.block _ (by omega) (fun e => by have := Option.some.inj e; omega)) (f1.out.block _ (by omega) (fun e => by have := Option.some.inj e; omega)))
          have hbW := blk_lt HX.out
          have hgW := blk_lt HG.out
          have hpW := blk_lt HBx.out
          have cp : W'.cell? ⟨pb, 0, none⟩ = some (.pointer (some ⟨b, 0, none⟩)) := blk_cell HBx.out 0
          clear h1 f1
          have HNum := Aside0.mk (number_any b g s p l2 .nilIface 0 p l2 0 ⟨#[]⟩ W' HX.out HG.out hgb hlt hs hline HL.out ⟨hlow.1, hg9⟩)
          have HM := Aside0.mk (nLen_le (s.data.toList.drop p))
          obtain ⟨m, hm⟩ : ∃ m, nLen (s.data.toList.drop p) = m := ⟨_, rfl⟩
          have HM1 := Aside0.mk (show nDig (s.data.toList.drop p) ≠ 0 → 1 ≤ m by rw [← hm, nLen]; omega)
          have HNum2 := Aside0.mk (show Calls Tryz.prog 40 #[.pointer (some ⟨b, 0, none⟩), .pointer (some ⟨g, 0, none⟩)] W' (fun e w' => match oneL (s.data.toList.drop p) with
              | .bad c o => NumBad b g s c ((p + o : Nat) : Int) W' e w'
              | .tok k m n => nDig (s.data.toList.drop p) ≠ 0 ∧ k = 2 ∧ m = nLen (s.data.toList.drop p) ∧ Read b g s p l2 m .nilIface k p l2 n W' e w') from by
            refine HNum.out.mono fun e w' h => ?_
            rw [HO.out]
            unfold NumPost at h
            by_cases e1 : nDig (s.data.toList.drop p) = 0
            · rw [if_pos e1] at h ⊢; exact h
            · rw [if_neg e1] at h ⊢
              by_cases e2 : 4294967296 ≤ nVal (s.data.toList.drop p)
              · rw [if_pos e2] at h ⊢; exact h
              · rw [if_neg e2] at h ⊢
                by_cases e3 : nTail (s.data.toList.drop p) = true
                · rw [if_pos e3] at h ⊢; exact h
                · rw [if_neg e3] at h ⊢; exact ⟨e1, rfl, rfl, h⟩)
          have HK := Aside0.mk (show ∀ k m' n, oneL (s.data.toList.drop p) = .tok k m' n → nDig (s.data.toList.drop p) ≠ 0 ∧ k = 2 ∧ m' = m from by
            intro k m' n h
            rw [HO.out] at h
            by_cases e1 : nDig (s.data.toList.drop p) = 0
            · rw [if_pos e1] at h; cases h
            · rw [if_neg e1] at h
              by_cases e2 : 4294967296 ≤ nVal (s.data.toList.drop p)
              · rw [if_pos e2] at h; cases h
              · rw [if_neg e2] at h
                by_cases e3 : nTail (s.data.toList.drop p) = true
                · rw [if_pos e3] at h; cases h
                · rw [if_neg e3] at h; cases h; exact ⟨e1, rfl, hm⟩)
          clear HNum HO
          rw [hm] at HM HNum2
          cases hone : oneL (s.data.toList.drop p) with
          | bad cd o =>
            have HOne := Aside0.mk hone
            have HBad := HNum2
            rw [hone] at HBad
            clear HNum2 HM HM1 HK hone hm
            go_wp2_with fail
            refine HBad.out.mono ?_
            rintro e W' ⟨rfl, f2, v, p5, l5, ⟨g3, rfl, hv⟩, hx5⟩
            replace HX := Aside0.mk hx5
            have HFt := Aside0.mk hv
            replace HJ1 := Aside0.mk (HR.out.step _ _ _ HJ1.out (Fr.two_new HF.out f2 hgW1))
            have HBx5 := Aside0.mk ((f2.block pb hpW hpb (Ne.symm hgp)).trans HBx.out)
            have cp : W'.cell? ⟨pb, 0, none⟩ = some (.pointer (some ⟨b, 0, none⟩)) := blk_cell HBx5.out 0
            have c3 : W'.cell? ⟨b, 262, none⟩ = some (.iface 56 (.pointer (some ⟨g3, 0, none⟩))) := lx_at HX.out 3
            clear f2 hv hx5
            go_wp2
            refine bodyPost_ret (results_none rfl _ _ _) rfl ?_
            obtain ⟨f, rfl⟩ : ∃ f, gk = f + 1 := ⟨gk - 1, by have := HH.out.fuel; omega⟩
            have hall := HH.out.all
            rw [lexG_bad (by rw [hR0]; exact List.cons_ne_nil _ _) HOne.out] at hall
            refine ⟨rfl, ?_, true, p5, l5, _, HX.out, ?_⟩
            · rw [hall, List.append_nil]
              exact HJ1.out
            · rw [hall]
              exact ⟨g3, rfl, HFt.out⟩
          | tok k m' n =>
            rw [hone] at HNum2
            obtain ⟨e1, rfl, rfl⟩ := HK.out _ _ _ hone
            have HOne := Aside0.mk hone
            have HTok := Aside0.mk (show Calls Tryz.prog 40 #[.pointer (some ⟨b, 0, none⟩), .pointer (some ⟨g, 0, none⟩)] W' (Read b g s p l2 m' .nilIface 2 p l2 n W') from HNum2.out.mono fun e w' h => h.2.2.2)
            replace HM1 := Aside0.mk (HM1.out e1)
            obtain ⟨m, rfl⟩ : ∃ m, m = m' := ⟨_, rfl⟩
            clear HNum2 HK hone hm e1
            go_wp2_with fail
            refine HTok.out.mono ?_
            rintro e W' ⟨rfl, f2, hx, hg⟩
            replace HJ1 := Aside0.mk (HR.out.step _ _ _ HJ1.out (Fr.two_new HF.out f2 hgW1))
            replace HBx := Aside0.mk ((f2.block pb hpW hpb (Ne.symm hgp)).trans HBx.out)
            replace HL := Aside0.mk (HL.out.keep (f2.block _ (by omega) (by omega) (by omega)) (f2.block _ (by omega) (by omega) (by omega)))
            replace HX := Aside0.mk hx
            replace HG := Aside0.mk hg
            have cp : W'.cell? ⟨pb, 0, none⟩ = some (.pointer (some ⟨b, 0, none⟩)) := blk_cell HBx.out 0
            have c3 : W'.cell? ⟨b, 262, none⟩ = some .nilIface := lx_at HX.out 3
            have z0 := blk_cell HG.out 0
            have z1 := blk_cell HG.out 1
            have z2 := blk_cell HG.out 2
            have z3 := blk_cell HG.out 3
            have z4 := blk_cell HG.out 4
            clear f2 hx hg
            obtain ⟨fn, tmps, assign, body, hy, hRd⟩ := HR.out.round pre ⟨2, p, l2, s.extract p (p + m), n⟩ W' HJ1.out (by have := HH.out.len; omega)
            dsimp only [Tok.val] at hy
            have HRd := Aside0.mk hRd
            clear hRd
            go_upto_region 12 with (fail)
            refine (wpIn_wide (n := 3)).1 ?_
            gi_wp2
            refine HRd.out.mono ?_
            rintro e W5 ⟨rfl, hj5, hk5⟩
            replace HJ1 := Aside0.mk hj5
            have HK5 := Aside0.mk hk5
            clear hj5 hk5 hy HRd cp c3 z0 z1 z2 z3 z4
            gi_wp2
            replace HX := Aside0.mk (show LX W5 b true s (p + m) (l2 + nls ((s.data.toList.drop p).take m)) .nilIface by
              have := HX.out
              rw [extract_take] at this
              exact (HK5.out.lx.trans this))
            replace HBx := Aside0.mk (HK5.out.box.trans HBx.out)
            replace HL := Aside0.mk (HL.out.keep HK5.out.tab HK5.out.err)
            have hbW5 := blk_lt HX.out
            have hpW5 := blk_lt HBx.out
            have cp : W5.cell? ⟨pb, 0, none⟩ = some (.pointer (some ⟨b, 0, none⟩)) := blk_cell HBx.out 0
            have hml : m ≤ (s.data.toList.drop p).length := HM.out
            have hnl : nls ((s.data.toList.drop p).take m) ≤ m := Nat.le_trans List.count_le_length (List.length_take_le _ _)
            have hpm : p + m ≤ s.size := by
              have := hml
              simp at this
              omega
            obtain ⟨l6, hl6⟩ : ∃ l6, l2 + nls ((s.data.toList.drop p).take m) = l6 := ⟨_, rfl⟩
            rw [hl6] at HX
            have HSk := Aside0.mk (skip_any b true s (p + m) l6 .nilIface W5 HX.out hpm hs (by omega))
            go_wp2_with fail
            refine HSk.out.mono ?_
            rintro e W6 ⟨rfl, j6, i6, hj6, hLX, hini, hF6⟩
            have hd6 : s.data.toList.drop (p + m) = (s.data.toList.drop p).drop m := by rw [List.drop_drop]
            have HH6 := Aside0.mk (show Head s b pb J (gk - 1) (pre ++ [⟨2, p, l2, s.extract p (p + m), n⟩]) (p + m + j6) (l6 + nls ((s.data.toList.drop (p + m)).take j6)) i6 W6 from by
              have hjl : j6 ≤ s.size - (p + m) := by rw [hj6]; exact Nat.le_trans (skipN_le _ _) (by simp)
              obtain ⟨f, rfl⟩ : ∃ f, gk = f + 1 := ⟨gk - 1, by have := HH.out.fuel; omega⟩
              refine ⟨HR.out.step _ _ _ HJ1.out hF6, hLX, hini, hF6.blk HBx.out hpb, HL.out.keep (hF6.out.block _ (by omega) (fun e => by have := Option.some.inj e; omega)) (hF6.out.block _ (by omega) (fun e => by have := Option.some.inj e; omega)), ?_, ?_, by omega, ?_, ?_⟩
              · have := HH.out.len
                have h1 := HM1.out
                simp
                omega
              · have : nls ((s.data.toList.drop (p + m)).take j6) ≤ j6 := Nat.le_trans List.count_le_length (List.length_take_le _ _)
                omega
              · have := HH.out.fuel
                have h1 := HM1.out
                simp only [Nat.add_sub_cancel]
                omega
              · have hall := HH.out.all
                rw [lexG_tok (by rw [hR0]; exact List.cons_ne_nil _ _) HOne.out] at hall
                rw [← hd6, ← hj6, hl6, ← extract_arr, List.drop_drop] at hall
                rw [hall, List.append_assoc]
                rfl)
            clear HX HSk HJ1 HL HBx hj6 hLX hini hF6
            go_wp2
            go_roundg (gk - 1)
            case measure => have := HH.out.fuel; omega
            case rel => exact ⟨_, _, _, _, HH6⟩
        | false =>
          go_wp2_with fail
          refine (is_val b true _ c 4 _ h4 _ HX.out (by omega) (by omega)).mono ?_
          rintro e W' ⟨rfl, h1, f1⟩
          replace HX := Aside0.mk (show LX W' b true s p l2 .nilIface from h1)
          replace HF := Aside0.mk (HF.out.trans f1)
          replace HG := Aside0.mk (show TokB W' g 0 p l2 ⟨#[]⟩ 0 from f1.blk HG.out hgb)
          replace HBx := Aside0.mk (f1.blk HBx.out hpb)
          replace HL := Aside0.mk (HL.out.keep (f1.out.block _ (by omega) (fun e => by have := Option.some.inj e; omega)) (f1.out.block _ (by omega) (fun e => by have := Option.some.inj e; omega)))
          have hbW := blk_lt HX.out
          have hgW := blk_lt HG.out
          have hpW := blk_lt HBx.out
          have cp : W'.cell? ⟨pb, 0, none⟩ = some (.pointer (some ⟨b, 0, none⟩)) := blk_cell HBx.out 0
          clear h1 f1
          cases h8 : hasS (c : Int) 8 with
          | true =>
            go_wp2_with fail
            refine (is_val b true _ c 8 _ h8 _ HX.out (by omega) (by omega)).mono ?_
            rintro e W' ⟨rfl, h1, f1⟩
            replace HX := Aside0.mk (show LX W' b true s p l2 .nilIface from h1)
            replace HF := Aside0.mk (HF.out.trans f1)
            replace HG := Aside0.mk (show TokB W' g 0 p l2 ⟨#[]⟩ 0 from f1.blk HG.out hgb)
            replace HBx := Aside0.mk (f1.blk HBx.out hpb)
            replace HL := Aside0.mk (HL.out.keep (f1.out.block _ (by omega) (fun e => by have := Option.some.inj e; omega)) (f1.out.block _ (by omega) (fun e => by have := Option.some.inj e; omega)))
            have hbW := blk_lt HX.out
            have hgW := blk_lt HG.out
            have hpW := blk_lt HBx.out
            have cp : W'.cell? ⟨pb, 0, none⟩ = some (.pointer (some ⟨b, 0, none⟩)) := blk_cell HBx.out 0
            clear h1 f1
            obtain ⟨m, hm⟩ : ∃ m, markN (s.data.toList.drop p) = m := ⟨_, rfl⟩
            have HOne := Aside0.mk (show oneL (s.data.toList.drop p) = .tok 3 m 0 from by
              rw [← hm, hR0, oneL]; simp only [HC.out, h2, h4, h8, if_true, if_false, Bool.false_eq_true])
            have HM := Aside0.mk (show m ≤ (s.data.toList.drop p).length by rw [← hm, hR0]; exact markN_le _ _)
            have HM1 := Aside0.mk (show 1 ≤ m by rw [← hm]; exact markN_pos _)
            have HTok := Aside0.mk (mark_ok b g s p l2 m .nilIface 0 p l2 0 ⟨#[]⟩ W' HX.out HG.out hgb hlt hs hline HL.out.tab hm)
            clear hm
            go_wp2_with fail
            refine HTok.out.mono ?_
            rintro e W' ⟨rfl, f2, hx, hg⟩
            replace HJ1 := Aside0.mk (HR.out.step _ _ _ HJ1.out (Fr.two_new HF.out f2 hgW1))
            replace HBx := Aside0.mk ((f2.block pb hpW hpb (Ne.symm hgp)).trans HBx.out)
            replace HL := Aside0.mk (HL.out.keep (f2.block _ (by omega) (by omega) (by omega)) (f2.block _ (by omega) (by omega) (by omega)))
            replace HX := Aside0.mk hx
            replace HG := Aside0.mk hg
            have cp : W'.cell? ⟨pb, 0, none⟩ = some (.pointer (some ⟨b, 0, none⟩)) := blk_cell HBx.out 0
            have c3 : W'.cell? ⟨b, 262, none⟩ = some .nilIface := lx_at HX.out 3
            have z0 := blk_cell HG.out 0
            have z1 := blk_cell HG.out 1
            have z2 := blk_cell HG.out 2
            have z3 := blk_cell HG.out 3
            have z4 := blk_cell HG.out 4
            clear f2 hx hg
            obtain ⟨fn, tmps, assign, body, hy, hRd⟩ := HR.out.round pre ⟨3, p, l2, s.extract p (p + m), 0⟩ W' HJ1.out (by have := HH.out.len; omega)
            dsimp only [Tok.val] at hy
            have HRd := Aside0.mk hRd
            clear hRd
            go_upto_region 12 with (fail)
            refine (wpIn_wide (n := 3)).1 ?_
            gi_wp2
            refine HRd.out.mono ?_
            rintro e W5 ⟨rfl, hj5, hk5⟩
            replace HJ1 := Aside0.mk hj5
            have HK5 := Aside0.mk hk5
            clear hj5 hk5 hy HRd cp c3 z0 z1 z2 z3 z4
            gi_wp2
            replace HX := Aside0.mk (show LX W5 b true s (p + m) (l2 + nls ((s.data.toList.drop p).take m)) .nilIface by
              have := HX.out
              rw [extract_take] at this
              exact (HK5.out.lx.trans this))
            replace HBx := Aside0.mk (HK5.out.box.trans HBx.out)
            replace HL := Aside0.mk (HL.out.keep HK5.out.tab HK5.out.err)
            have hbW5 := blk_lt HX.out
            have hpW5 := blk_lt HBx.out
            have cp : W5.cell? ⟨pb, 0, none⟩ = some (.pointer (some ⟨b, 0, none⟩)) := blk_cell HBx.out 0
            have hml : m ≤ (s.data.toList.drop p).length := HM.out
            have hnl : nls ((s.data.toList.drop p).take m) ≤ m := Nat.le_trans List.count_le_length (List.length_take_le _ _)
            have hpm : p + m ≤ s.size := by
              have := hml
              simp at this
              omega
            obtain ⟨l6, hl6⟩ : ∃ l6, l2 + nls ((s.data.toList.drop p).take m) = l6 := ⟨_, rfl⟩
            rw [hl6] at HX
            have HSk := Aside0.mk (skip_any b true s (p + m) l6 .nilIface W5 HX.out hpm hs (by omega))
            go_wp2_with fail
            refine HSk.out.mono ?_
            rintro e W6 ⟨rfl, j6, i6, hj6, hLX, hini, hF6⟩
            have hd6 : s.data.toList.drop (p + m) = (s.data.toList.drop p).drop m := by rw [List.drop_drop]
            have HH6 := Aside0.mk (show Head s b pb J (gk - 1) (pre ++ [⟨3, p, l2, s.extract p (p + m), 0⟩]) (p + m + j6) (l6 + nls ((s.data.toList.drop (p + m)).take j6)) i6 W6 from by
              have hjl : j6 ≤ s.size - (p + m) := by rw [hj6]; exact Nat.le_trans (skipN_le _ _) (by simp)
              obtain ⟨f, rfl⟩ : ∃ f, gk = f + 1 := ⟨gk - 1, by have := HH.out.fuel; omega⟩
              refine ⟨HR.out.step _ _ _ HJ1.out hF6, hLX, hini, hF6.blk HBx.out hpb, HL.out.keep (hF6.out.block _ (by omega) (fun e => by have := Option.some.inj e; omega)) (hF6.out.block _ (by omega) (fun e => by have := Option.some.inj e; omega)), ?_, ?_, by omega, ?_, ?_⟩
              · have := HH.out.len
                have h1 := HM1.out
                simp
                omega
              · have : nls ((s.data.toList.drop (p + m)).take j6) ≤ j6 := Nat.le_trans List.count_le_length (List.length_take_le _ _)
                omega
              · have := HH.out.fuel
                have h1 := HM1.out
                simp only [Nat.add_sub_cancel]
                omega
              · have hall := HH.out.all
                rw [lexG_tok (by rw [hR0]; exact List.cons_ne_nil _ _) HOne.out] at hall
                rw [← hd6, ← hj6, hl6, ← extract_arr, List.drop_drop] at hall
                rw [hall, List.append_assoc]
                rfl)
            clear HX HSk HJ1 HL HBx hj6 hLX hini hF6
            go_wp2
            go_roundg (gk - 1)
            case measure => have := HH.out.fuel; omega
            case rel => exact ⟨_, _, _, _, HH6⟩
          | false =>
            go_wp2_with fail
            refine (is_val b true _ c 8 _ h8 _ HX.out (by omega) (by omega)).mono ?_
            rintro e W' ⟨rfl, h1, f1⟩
            replace HX := Aside0.mk (show LX W' b true s p l2 .nilIface from h1)
            replace HF := Aside0.mk (HF.out.trans f1)
            replace HG := Aside0.mk (show TokB W' g 0 p l2 ⟨#[]⟩ 0 from f1.blk HG.out hgb)
            replace HBx := Aside0.mk (f1.blk HBx.out hpb)
            replace HL := Aside0.mk (HL.out.keep (f1.out.block _ (by omega) (fun e => by have := Option.some.inj e; omega)) (f1.out.block _ (by omega) (fun e => by have := Option.some.inj e; omega)))
            have hbW := blk_lt HX.out
            have hgW := blk_lt HG.out
            have hpW := blk_lt HBx.out
            have cp : W'.cell? ⟨pb, 0, none⟩ = some (.pointer (some ⟨b, 0, none⟩)) := blk_cell HBx.out 0
            clear h1 f1
            have HOne := Aside0.mk (show oneL (s.data.toList.drop p) = .bad 7 0 from by
              rw [hR0, oneL]; simp only [HC.out, h2, h4, h8, if_true, if_false, Bool.false_eq_true])
            have c1 : W'.cell? ⟨b, 260, none⟩ = some (.int .i64 p) := lx_at HX.out 1
            have HBad := Aside0.mk (show Calls Tryz.prog 42 #[.pointer (some ⟨b, 0, none⟩), .int .i64 7, .int .i64 p] W'.drew (NumBad b g s 7 ((p + 0 : Nat) : Int) W') from (fail_any b true s p l2 .nilIface 7 p W'.drew (lx_drew HX.out)).mono fun e w' ⟨h1, h2, v, h3, h4, _⟩ => ⟨h1, (((Fr.refl b W').drew).trans h2).two g, v, _, _, h3, h4⟩)
            go_wp2
            go_still_tail 5, (by kernel_rfl)
            go_wp2_with fail
            refine HBad.out.mono ?_
            rintro e W' ⟨rfl, f2, v, p5, l5, ⟨g3, rfl, hv⟩, hx5⟩
            replace HX := Aside0.mk hx5
            have HFt := Aside0.mk hv
            replace HJ1 := Aside0.mk (HR.out.step _ _ _ HJ1.out (Fr.two_new HF.out f2 hgW1))
            have HBx5 := Aside0.mk ((f2.block pb hpW hpb (Ne.symm hgp)).trans HBx.out)
            have cp : W'.cell? ⟨pb, 0, none⟩ = some (.pointer (some ⟨b, 0, none⟩)) := blk_cell HBx5.out 0
            have c3 : W'.cell? ⟨b, 262, none⟩ = some (.iface 56 (.pointer (some ⟨g3, 0, none⟩))) := lx_at HX.out 3
            clear f2 hv hx5
            go_wp2
            refine bodyPost_ret (results_none rfl _ _ _) rfl ?_
            obtain ⟨f, rfl⟩ : ∃ f, gk = f + 1 := ⟨gk - 1, by have := HH.out.fuel; omega⟩
            have hall := HH.out.all
            rw [lexG_bad (by rw [hR0]; exact List.cons_ne_nil _ _) HOne.out] at hall
            refine ⟨rfl, ?_, true, p5, l5, _, HX.out, ?_⟩
            · rw [hall, List.append_nil]
              exact HJ1.out
            · rw [hall]
              exact ⟨g3, rfl, HFt.out⟩
    · have hdec : decide (p < s.size) = false := decide_eq_false hlt
      go_wp2
      go_quiet (fail)
      go_wp2
      have HJ1 := Aside0.mk (HR.out.step _ _ _ HH.out.j (((Fr.refl b wr).drewN nq).drew))
      have HX1 := Aside0.mk (show LX (wr.drewN nq).drew b i3 s p l2 .nilIface from HH.out.lx)
      have cp1 : (wr.drewN nq).cell? ⟨pb, 0, none⟩ = some (.pointer (some ⟨b, 0, none⟩)) := blk_cell HH.out.box 0
      have c11 : (wr.drewN nq).cell? ⟨b, 260, none⟩ = some (.int .i64 p) := lx_at HH.out.lx 1
      have c21 : (wr.drewN nq).cell? ⟨b, 261, none⟩ = some (.int .i64 l2) := lx_at HH.out.lx 2
      have hlen := HH.out.len
      generalize wr.drewN nq = W1 at *
      obtain ⟨fn, tmps, assign, body, hy, hRd⟩ := HR.out.round pre ⟨0, p, l2, ⟨#[]⟩, 0⟩ W1.drew HJ1.out (by omega)
      dsimp only [Tok.val] at hy
      have HRd := Aside0.mk hRd
      clear hRd
      refine (wpIn_wide (n := 3)).1 ?_
      gi_region_with (refine HRd.out.mono ?_; rintro e W2 ⟨rfl, hj2, hk2⟩; have HJ2 := Aside0.mk hj2; have HK2 := Aside0.mk hk2; clear hj2 hk2)
      all_goals
        go_wp2
        go_end0
        obtain ⟨f, rfl⟩ : ∃ f, gk = f + 1 := ⟨gk - 1, by have := HH.out.fuel; omega⟩
        have hall := HH.out.all
        rw [show s.data.toList.drop p = [] from List.drop_eq_nil_of_le (by simp; omega), lexG_end] at hall
        refine ⟨rfl, ?_, i3, p, l2, .nilIface, ?_, ?_⟩
        · rw [hall]
          exact HJ2.out
        · exact HK2.out.lx.trans HX1.out
        · rw [hall]
end Go.Proofs.YtdlfjokhgmngcaaGreatDoor.Lx

/-! A range over the lexer's iterator: the law, told with what the iterator asks of the body. -/
namespace Go.Proofs.YtdlfjokhgmngcaaGreatDoor.Lx
open Go.RowKit Go.Shelf Go.Proofs.YtdlfjokhgmngcaaGreatDoorW.PrintWords
set_option linter.unusedVariables false
set_option linter.unusedSimpArgs false

/-- What a caller says of its own variables between two rounds: its word keeps under the iterator's steps and under the loop's book-keeping. -/
structure Inv (b pb n0 : Nat) (I : List Tok → World → Prop) : Prop where
  fr : ∀ pre A B, I pre A → n0 ≤ A.heap.size → Fr b A B → I pre B
  book : ∀ pre A l o o', I pre A → n0 ≤ l → A.heap[l]? = some o → o.isCells = false → I pre (A.putObj l o')

theorem putObj_kp {b pb n0 : Nat} {A : World} {l : Nat} {o' : Obj} (hl : n0 ≤ l) (hb : b < n0) (hp : pb < n0) (h0 : 8 < n0) : Kp b pb A (A.putObj l o') :=
  ⟨by rw [World.putObj_size]; exact Nat.le_refl _, World.putObj_heap_other (by omega), World.putObj_heap_other (by omega), World.putObj_heap_other (by omega), World.putObj_heap_other (by omega)⟩
theorem Kp.trans {b pb : Nat} {A B C : World} (h : Kp b pb A B) (k : Kp b pb B C) : Kp b pb A C :=
  ⟨Nat.le_trans h.size k.size, k.lx.trans h.lx, k.box.trans h.box, k.tab.trans h.tab, k.err.trans h.err⟩
theorem Kp.alloc {b pb n0 : Nat} {A : World} (o : Obj) (hA : n0 ≤ A.heap.size) (hb : b < n0) (hp : pb < n0) (h0 : 8 < n0) : Kp b pb A (A.alloc o) :=
  have hg := World.grownBy_alloc A o none
  ⟨hg.size, hg.block _ (by omega) (by simp), hg.block _ (by omega) (by simp), hg.block _ (by omega) (by simp), hg.block _ (by omega) (by simp)⟩

theorem wpIn_range_toks {g : Operand} {t : Tmp} {assign body : Code} {Q : Exit → Act → World → Prop} {a : Act} {w : World} {gf : Nat} {lb : Array Value}
    (hg : a.eval g = .func (.func gf) #[] lb) (eg : ∀ args w, (callFunc gf args).run Tryz.prog w = .ok (.enter gf args) w)
    {b pb N : Nat} {s : ByteArray} (hbw : b < w.heap.size) (hpw : pb < w.heap.size) (h0 : 8 < w.heap.size)
    (hseq : ∀ (l : Nat) (J : List Tok → World → Prop) (W : World), Rounds l b pb N J → w.grownBy W none → J [] W → Calls Tryz.prog gf (#[.func (.yield l) #[] #[]] ++ lb) W fun e W' => e = .returned (.tuple #[]) ∧ Ended b s J W')
    (I : List Tok → World → Prop) (hI : Inv b pb w.heap.size I) (hI0 : ∀ W, w.grownBy W none → I [] W)
    (w1 : Tok → World → World) (u : Tmp)
    (hw1 : ∀ pre x W, I pre W → w.heap.size + 2 ≤ W.heap.size → I pre (w1 x W) ∧ KeepsOthers W (w1 x W) ∧ Kp b pb W (w1 x W))
    (hassign : ∀ (l : Nat) (x : Tok) (W : World) (K : Act → World → Prop), K { tmps := (a.tmps.setIfInBounds t x.val).setIfInBounds u (.pointer (some ⟨W.heap.size, 0, none⟩)), defers := [] } (w1 x W) →
      assign.wpIn (Fence.wide.inRound l) 2 Tryz.prog (Exit.then K (fun _ _ _ => False)) { tmps := a.tmps.setIfInBounds t x.val, defers := [] } W)
    (hbody : ∀ (l : Nat) (pre : List Tok) (x : Tok) (W : World) (o : Obj), w.heap.size ≤ l → l < W.heap.size → I pre W → w.heap.size + 2 ≤ W.heap.size → pre.length < N → I pre ((w1 x W).putObj l o) → 
      body.wpIn (Fence.wide.inRound l) 2 Tryz.prog (fun e _ W' => e = .normal ∧ KeepsOthers ((w1 x W).putObj l o) W' ∧ Kp b pb ((w1 x W).putObj l o) W' ∧ I (pre ++ [x]) W') { tmps := (a.tmps.setIfInBounds t x.val).setIfInBounds u (.pointer (some ⟨W.heap.size, 0, none⟩)), defers := [] } ((w1 x W).putObj l o))
    (hdone : ∀ (D : Nat) (W : World), Ended b s I W → w.heap.size ≤ D → W.heap[D]? = some (.deferred (some [])) → Q .normal { a with defers := { target := .collected D, args := #[] } :: a.defers } W) :
    (Code.rangeFunc g #[t] assign body).wpIn Fence.wide 4 Tryz.prog Q a w := by
  refine wpIn_rangeFunc ?_
  intro fn hfn
  obtain ⟨rec, hrec⟩ : ∃ rec : LoopState → Option Code → Loop, rec = fun st pe => { state := st, pending := pe, fn, tmps := a.tmps, params := #[t], assign, body, defers := w.heap.size } := ⟨_, rfl⟩
  obtain ⟨W1, hW1⟩ : ∃ W1, (w.alloc (.deferred (some []))).alloc (.loop (rec .ready none)) = W1 := ⟨_, rfl⟩
  have hL1 : W1.heap[w.heap.size + 1]? = some (.loop (rec .ready none)) := by
    rw [← hW1]; have := World.alloc_heap_new (w.alloc (.deferred (some []))) (.loop (rec .ready none)); rwa [World.size_alloc] at this
  have hK1 : W1.heap[w.heap.size]? = some (.deferred (some [])) := by
    rw [← hW1]; exact (Below.heap_alloc _ _ _ (by simp)).trans (World.alloc_heap_new w _)
  have hg1 : w.grownBy W1 none := by rw [← hW1]; exact World.grownBy.trans (World.grownBy_alloc w _ _) (World.grownBy_alloc _ _ _)
  have hR : Rounds (w.heap.size + 1) b pb N (fun pre W => I pre W ∧ W.heap[w.heap.size + 1]? = some (.loop (rec .ready none)) ∧ W.heap[w.heap.size]? = some (.deferred (some []))) := by
    refine ⟨?_, ?_⟩
    · rintro pre A B ⟨h1, h2, h3⟩ hF
      have hA : w.heap.size + 1 < A.heap.size := (Array.getElem?_eq_some_iff.1 h2).1
      exact ⟨hI.fr _ _ _ h1 (by omega) hF, hF.blk h2 (by omega), hF.blk h3 (by omega)⟩
    · rintro pre x W ⟨hi, hl, hk⟩ hlen
      have hlt : w.heap.size + 1 < W.heap.size := (Array.getElem?_eq_some_iff.1 hl).1
      have hy := run_yield (P := Tryz.prog) (args := #[x.val]) hl (by rw [hrec]; rfl)
      rw [hrec] at hy
      replace hy : (Instr.yield (w.heap.size + 1) #[x.val]).run Tryz.prog W = .ok (.round (w.heap.size + 1) fn (a.tmps.setIfInBounds t x.val) assign body) W := by simpa using hy
      obtain ⟨hi1, hk1, hp1⟩ := hw1 pre x W hi (by omega)
      have hl1 : (w1 x W).heap[w.heap.size + 1]? = some (.loop (rec .ready none)) := hk1.same _ _ hl rfl
      have hk1' : (w1 x W).heap[w.heap.size]? = some (.deferred (some [])) := hk1.same _ _ hk rfl
      refine ⟨fn, _, assign, body, hy, roundIn_of_wpIn hfn (hassign _ x W _ ?_)⟩
      refine ⟨_, run_beginRound hl1 (by rw [hrec]), ?_⟩
      have hlt1 : w.heap.size + 1 < (w1 x W).heap.size := (Array.getElem?_eq_some_iff.1 hl1).1
      have hl2 : ((w1 x W).putObj (w.heap.size + 1) (.loop { rec .ready none with state := .busy })).heap[w.heap.size + 1]? = some (.loop { rec .ready none with state := .busy }) := World.putObj_heap_same hlt1
      have hk2 : ((w1 x W).putObj (w.heap.size + 1) (.loop { rec .ready none with state := .busy })).heap[w.heap.size]? = some (.deferred (some [])) := (World.putObj_heap_other (by omega)).trans hk1'
      refine wpIn_mono (hbody (w.heap.size + 1) pre x W (.loop { rec .ready none with state := .busy }) (by omega) hlt hi (by omega) hlen (hI.book _ _ _ _ _ hi1 (by omega) hl1 rfl)) ?_
      rintro e a3 W3 ⟨rfl, hk3, hp3, hi3⟩
      have hl3 := hk3.same _ _ hl2 rfl
      have hk4 := hk3.same _ _ hk2 rfl
      have hr := run_endRound (P := Tryz.prog) none hl3
      refine ⟨_, _, hr, rfl, ⟨hI.book _ _ _ _ _ hi3 (by omega) hl3 rfl, ?_, (World.putObj_heap_other (by omega)).trans hk4⟩, ?_⟩
      · have := World.putObj_heap_same (w := W3) (o := .loop { { rec .ready none with state := .busy } with state := if (none : Option Code).isNone then .ready else .done, pending := none }) (Array.getElem?_eq_some_iff.1 hl3).1
        rw [this, hrec]
        rfl
      · exact (hp1.trans (putObj_kp (n0 := w.heap.size) (by omega) hbw hpw h0)).trans (hp3.trans (putObj_kp (n0 := w.heap.size) (by omega) hbw hpw h0))
  refine ⟨w.heap.size + 1, [{ target := .collected w.heap.size, args := #[] }], W1, { target := .fn (.func gf) lb, args := #[.func (.yield (w.heap.size + 1)) #[] #[]] }, W1, gf,
    #[.func (.yield (w.heap.size + 1)) #[] #[]] ++ lb, W1, ?_, ?_, ?_, ?_, fun _ => by omega, ?_⟩
  · rw [← hW1, hrec]; exact run_enterLoop_outer _ _ _ _ _
  · simp only [resolve, hg]
    simp [go_sem]
  · intro f' hf'; trivial
  · simp [invoke, go_sem, eg]
  · refine (callsIn_wide.2 (hseq (w.heap.size + 1) _ W1 hR hg1 ⟨hI0 _ hg1, hL1, hK1⟩)).mono ?_
    · rintro e W2 ⟨rfl, ⟨hi, hl, hk⟩, i2, p', l', v, hx, hv⟩
      refine ⟨none, _, by have := run_endLoop (P := Tryz.prog) hl (by rw [hrec]; simp); rw [hrec] at this; exact this, hdone w.heap.size _ ⟨hI.book _ _ _ _ _ hi (by omega) hl rfl, i2, p', l', v, ?_, ?_⟩ (Nat.le_refl _) ((World.putObj_heap_other (by omega)).trans hk)⟩
      · exact (World.putObj_heap_other (by omega)).trans hx
      · cases hr : (lexL s.data.toList).2 with
        | none => rw [hr] at hv; exact hv
        | some cp =>
          obtain ⟨c, pl⟩ := cp
          rw [hr] at hv
          obtain ⟨g3, e3, hg3⟩ := hv
          refine ⟨g3, e3, (World.putObj_heap_other ?_).trans hg3⟩
          rintro rfl
          rw [hl] at hg3
          cases hg3
end Go.Proofs.YtdlfjokhgmngcaaGreatDoor.Lx

/-! The lexer's tokens and Lex, walked. -/
namespace Go.Proofs.YtdlfjokhgmngcaaGreatDoor.Lx
open Go.RowKit Go.Shelf Go.Proofs.YtdlfjokhgmngcaaGreatDoorW.PrintWords
set_option linter.unusedVariables false
set_option linter.unusedSimpArgs false
attribute [local go_sem] Oper.semAt_some

set_option maxRecDepth 100000 in
theorem tokens_any (b : Nat) (w : World) :
    Calls Tryz.prog 24 #[.pointer (some ⟨b, 0, none⟩)] w fun e w' => e = .returned (.func (.func 36) #[] #[.pointer (some ⟨w.heap.size, 0, none⟩)]) ∧ w' = w.alloc (.cells #[.pointer (some ⟨b, 0, none⟩)] 57) := by
  have hmf : ∀ (fn : Fn) (first cap : Array Value) (w : World), (Instr.makeFunc fn first cap).run Tryz.prog w = .ok (.func fn first cap) w := fun _ _ _ _ => rfl
  go_enter Tryz.func24, Tryz.ntmps24
  go_wp2
  go_ret
  exact ⟨rfl, rfl⟩

def tokCells (x : Tok) : List Value := [.int .i64 x.k, .int .i64 x.a, .int .i64 x.l, .string x.t, .int .i64 x.n]

/-- Behind Lex. -/
def Lexed (s : ByteArray) (w : World) (e : Ending) (w' : World) : Prop :=
  Below w.heap.size w w' ∧
  (if 20000 < s.size then ∃ v, e = .returned (.tuple #[.slice none 0 0, v]) ∧ FaultAt w' v 4 20000
   else match (lexL s.data.toList).2 with
   | some (c, pl) => ∃ v, e = .returned (.tuple #[.slice none 0 0, v]) ∧ FaultAt w' v c pl
   | none => ∃ v, e = .returned (.tuple #[v, .nilIface]) ∧ w'.ownsRow w.heap.size 31 5 v (lexL s.data.toList).1.length ((lexL s.data.toList).1.flatMap tokCells))

set_option maxRecDepth 100000 in
set_option maxHeartbeats 6400000 in
theorem Lex_long (s : ByteArray) (w : World) (hs : 20000 < s.size) (hs2 : s.size < 2 ^ 62) : Calls Tryz.prog 8 #[.string s] w (Lexed s w) := by
  have hd : decide ((20000 : Int) < (s.size : Int)) = true := decide_eq_true (by omega)
  have hd2 : decide (20000 < s.size) = true := decide_eq_true hs
  refine (callsIn_wide (n := 4)).1 ?_
  refine callsIn_of_wp_marks Tryz.func8 rfl trivial ?_
  simp only [Tryz.ntmps8, List.size_toArray, List.length_cons, List.length_nil, Nat.reduceAdd, Nat.reduceSub, Array.replicate_succ, Array.replicate_zero, List.push_toArray, List.append_toArray, List.nil_append, List.cons_append]
  gi_wp2
  refine ⟨_, results_tmp2 rfl _ _ _, (Below.refl _ w).alloc (Nat.le_refl _) _, ?_⟩
  rw [if_pos hs]
  exact ⟨_, rfl, w.heap.size, rfl, blk_new w _⟩

set_option maxRecDepth 100000 in
theorem zero_lex : Tryz.zeroCells74 = lexC 0 0 zerosS [.string ⟨#[]⟩, .int .i64 0, .int .i64 0, .nilIface] := by kernel_rfl
theorem zero_set (s : ByteArray) : (Tryz.zeroCells74.setIfInBounds 259 (.string s)).setIfInBounds 261 (.int .i64 1) = lexC 0 0 zerosS (lxt s 0 1 .nilIface) := by
  rw [zero_lex]
  have h1 := lexC_sett (d := 0) (m := 0) (S := zerosS) (tl := [.string ⟨#[]⟩, .int .i64 0, .int .i64 0, .nilIface]) (j := 0) (.string s) zerosS_len
  rw [show 259 = 259 + 0 from rfl, h1]
  have h2 := lexC_sett (d := 0) (m := 0) (S := zerosS) (tl := [.string s, .int .i64 0, .int .i64 0, .nilIface]) (j := 2) (.int .i64 1) zerosS_len
  exact h2

theorem row_le {w : World} {base base' : Nat} {e : TypeId} {size : Nat} {v : Value} {n : Nat} {xs : List Value} (h : w.ownsRow base e size v n xs) (hb : base' ≤ base) : w.ownsRow base' e size v n xs :=
  ⟨h.1, h.2.imp_right fun ⟨g, cap, cur, h1, h2, h3⟩ => ⟨g, cap, cur, h1, Nat.le_trans hb h2, h3⟩⟩

/-- What Lex's loop keeps: the box holds the tokens so far. -/
def Coll (w : World) (d ab : Nat) (pre : List Tok) (W : World) : Prop :=
  Below w.heap.size w W ∧ ∃ v, Boxed W ab 24 v ∧ W.ownsRow d 31 5 v pre.length (pre.flatMap tokCells)

theorem coll_inv (w : World) (b pb ab d : Nat) (hb : w.heap.size ≤ b) (hab : w.heap.size ≤ ab) (hne : ab ≠ b) (hbd : b < d) (had : ab < d) (hwd : w.heap.size ≤ d) : Inv b pb d (Coll w d ab) := by
  refine ⟨?_, ?_⟩
  · rintro pre A B ⟨h1, v, h2, h3⟩ hA hF
    refine ⟨h1.grown hF.out h1.size (fun k e => by cases e; exact hb), v, h2.kept hF.out (by simpa using hne), h3.kept hF.out ?_⟩
    cases hv : v.ownBlock with
    | none => exact .inl rfl
    | some k => exact .inr (fun e => by have := (h3.lt k hv).1; cases e; omega)
  · rintro pre A l o o' ⟨h1, v, h2, h3⟩ hl ho hc
    refine ⟨h1.grown (grownBy_putObj' _ _ _) h1.size (fun k e => by cases e; omega), v, (World.putObj_heap_other (by omega)).trans h2, ownsRow_putObj h3 o' ho hc⟩

theorem tok_info : (Tryz.prog.info? 31).map (fun i => (i.zero, i.size, i.bytes)) = some (some (.agg #[.int .i64 0, .int .i64 0, .int .i64 0, .string ⟨#[]⟩, .int .i64 0]), 5, 48) := by kernel_rfl

set_option maxRecDepth 100000 in
set_option maxHeartbeats 6400000 in
theorem Lex_fits (s : ByteArray) (w : World) (hs : s.size ≤ 20000) (hL : Laid w) (hlow : 8 < w.heap.size) : Calls Tryz.prog 8 #[.string s] w (Lexed s w) := by
  have hd : decide ((20000 : Int) < (s.size : Int)) = false := decide_eq_false (by omega)
  have hd2 : decide (20000 < s.size) = false := decide_eq_false (by omega)
  refine (callsIn_wide (n := 4)).1 ?_
  refine callsIn_of_wp_marks Tryz.func8 rfl trivial ?_
  simp only [Tryz.ntmps8, List.size_toArray, List.length_cons, List.length_nil, Nat.reduceAdd, Nat.reduceSub, Array.replicate_succ, Array.replicate_zero, List.push_toArray, List.append_toArray, List.nil_append, List.cons_append]
  gi_wp2_with fail
  refine ⟨trivial, (callsIn_wide.2 (tokens_any _ _)).mono ?_⟩
  rintro e W1 ⟨rfl, hW1⟩
  have hb1 : Below w.heap.size w W1 := by
    rw [hW1]; exact (((Below.refl _ w).alloc (Nat.le_refl _) _).alloc (by simp) _).alloc (by simp; omega) _
  have hlx : LX W1 w.heap.size false s 0 1 .nilIface := by
    rw [hW1]
    refine lx_alloc (lx_alloc ?_ _) _
    show (w.alloc _).heap[w.heap.size]? = _
    rw [blk_new, zero_set]
    rfl
  have hbox : Boxed W1 (w.heap.size + 1) 24 (.slice none 0 0) := by
    rw [hW1]
    have := (Boxed.new (w.alloc (.cells ((Tryz.zeroCells74.setIfInBounds 259 (.string s)).setIfInBounds 261 (.int .i64 1)) 74)) 24 (.slice none 0 0)).alloc (.cells #[.pointer (some ⟨w.heap.size, 0, none⟩)] 57)
    simpa using this
  have hpb : W1.heap[w.heap.size + 2]? = some (.cells #[.pointer (some ⟨w.heap.size, 0, none⟩)] 57 (0, 0)) := by
    rw [hW1]
    have := blk_new ((w.alloc (.cells ((Tryz.zeroCells74.setIfInBounds 259 (.string s)).setIfInBounds 261 (.int .i64 1)) 74)).alloc (.cells #[.slice none 0 0] 24)) (.cells #[.pointer (some ⟨w.heap.size, 0, none⟩)] 57)
    simpa using this
  have hL1 : Laid W1 := hL.keep (hb1.block _ (by omega)) (hb1.block _ (by omega))
  have hsz : W1.heap.size = w.heap.size + 3 := by rw [hW1]; simp
  clear hW1
  have HB1 := Aside0.mk hb1
  have HX1 := Aside0.mk hlx
  have HBx1 := Aside0.mk hbox
  have HPb1 := Aside0.mk hpb
  have HL1 := Aside0.mk hL1
  clear hb1 hlx hbox hpb hL1 hL hd hd2
  gi_wp2
  obtain ⟨i0, hi, hz0, hz1, hz2⟩ := info_parts tok_info
  refine wpIn_range_toks (b := w.heap.size) (pb := w.heap.size + 2) (N := 20002) (s := s) (gf := 36) (lb := #[.pointer (some ⟨w.heap.size + 2, 0, none⟩)]) rfl (fun _ _ => rfl) (by omega) (by omega) (by omega) ?_ (Coll w W1.heap.size (w.heap.size + 1)) (coll_inv w _ _ _ _ (by omega) (by omega) (by omega) (by omega) (by omega) (by omega)) ?_
    (fun x W => W.alloc (.cells #[.int .i64 x.k, .int .i64 x.a, .int .i64 x.l, .string x.t, .int .i64 x.n] 31)) 6 ?_ ?_ ?_ ?_
  · rintro l J W hR hgr hJ
    have hX : LX W w.heap.size false s 0 1 .nilIface := (hgr.block _ (by omega) (by simp)).trans HX1.out
    exact tokens1_any l w.heap.size (w.heap.size + 2) 20002 J hR s W hX ((hgr.block _ (by omega) (by simp)).trans HPb1.out) (HL1.out.keep (hgr.block _ (by omega) (by simp)) (hgr.block _ (by omega) (by simp))) hs (by omega) (by omega) ⟨by omega, by omega⟩ hJ
  · rintro W hgr
    exact ⟨HB1.out.grown hgr HB1.out.size (fun k e => by cases e), _, HBx1.out.kept hgr (by simp), W.ownsRow_nil _ _ _⟩
  · rintro pre x W ⟨h1, v, h2, h3⟩ hW
    have hs1 := h1.size
    exact ⟨⟨h1.alloc h1.size _, v, h2.alloc _, h3.alloc _⟩, KeepsOthers.alloc _ _, Kp.alloc (n0 := W1.heap.size) _ (by omega) (by omega) (by omega) (by omega)⟩
  · rintro l x W K hK
    simp only [List.setIfInBounds_toArray, List.set_cons_succ, List.set_cons_zero, Tok.val] at hK ⊢
    gi_wp2
    exact hK
  · rintro l pre x W o hl hlW hI hW hlen ⟨hb2, v, hv, hrow⟩
    have htb : ((W.alloc (.cells #[.int .i64 x.k, .int .i64 x.a, .int .i64 x.l, .string x.t, .int .i64 x.n] 31)).putObj l o).heap[W.heap.size]? = some (.cells #[.int .i64 x.k, .int .i64 x.a, .int .i64 x.l, .string x.t, .int .i64 x.n] 31 (0, 0)) :=
      (World.putObj_heap_other (by omega)).trans (blk_new W _)
    generalize (W.alloc (.cells #[.int .i64 x.k, .int .i64 x.a, .int .i64 x.l, .string x.t, .int .i64 x.n] 31)).putObj l o = W2 at *
    have htl := blk_lt htb
    have z0 : W2.cell? ⟨W.heap.size, 0, none⟩ = some (.int .i64 x.k) := blk_cell htb 0
    have z1 : W2.cell? ⟨W.heap.size, 1, none⟩ = some (.int .i64 x.a) := blk_cell htb 1
    have z2 : W2.cell? ⟨W.heap.size, 2, none⟩ = some (.int .i64 x.l) := blk_cell htb 2
    have z3 : W2.cell? ⟨W.heap.size, 3, none⟩ = some (.string x.t) := blk_cell htb 3
    have z4 : W2.cell? ⟨W.heap.size, 4, none⟩ = some (.int .i64 x.n) := blk_cell htb 4
    have y0 := hv.cell
    have hmax : 20003 ≤ maxLen := by decide
    have HB2 := Aside0.mk hb2
    have HV := Aside0.mk hv
    have HRow := Aside0.mk hrow
    have hs1 := hb2.size
    clear hb2 hv hrow hI htb
    simp only [List.setIfInBounds_toArray, List.set_cons_succ, List.set_cons_zero, Tok.val]
    gi_wp2_with (gi_at_builtin; refine wpListIn_append_own _ rfl _ _ 24 rfl W1.heap.size 31 i0 (.agg #[.int .i64 0, .int .i64 0, .int .i64 0, .string ⟨#[]⟩, .int .i64 0]) 5 48 Tryz.underlying24 hi hz0 hz1 hz2 rfl (by decide) _ _ _ rfl (HRow.out.alloc _) ⟨W2.heap.size, 0, none⟩ 1 1 (tokCells x) rfl rfl ?_ ?_ (by omega) (by omega) ?_ ?_)
    · intro j u hj
      match j, hj with
      | 0, hj => cases hj; exact blk_cell (blk_new W2 _) 0
      | 1, hj => cases hj; exact blk_cell (blk_new W2 _) 1
      | 2, hj => cases hj; exact blk_cell (blk_new W2 _) 2
      | 3, hj => cases hj; exact blk_cell (blk_new W2 _) 3
      | 4, hj => cases hj; exact blk_cell (blk_new W2 _) 4
      | n + 5, hj => simp [tokCells] at hj
    · intro u hu
      simp only [tokCells, List.mem_cons, List.not_mem_nil, or_false] at hu
      rcases hu with rfl | rfl | rfl | rfl | rfl <;> rfl
    · simp; omega
    · intro v' w3 hown' hgrow hnil
      rw [← hsz] at hown'
      obtain ⟨g', cap', rfl⟩ := ownsRow_succ hown'
      obtain ⟨q1, q2, q3, q4, q5⟩ := HV.out.appended (show (24 : Nat) ≠ 31 by decide) (row_le HRow.out (by omega : w.heap.size ≤ W1.heap.size)) (by omega) (by omega : w.heap.size ≤ w.heap.size + 1) (row_le hown' (by omega : w.heap.size ≤ W1.heap.size)) hgrow
      have hrow4 := hown'.kept (grownBy_setCell' w3 (w.heap.size + 1) (.slice (some ⟨g', 0, none⟩) (pre.length + 1) cap')) (.inr (q1.not_row (show (24 : Nat) ≠ 31 by decide) hown').symm)
      have hkeep : ∀ k, k < W1.heap.size → k ≠ w.heap.size + 1 → (w3.setCell ⟨w.heap.size + 1, 0, none⟩ (.slice (some ⟨g', 0, none⟩) (pre.length + 1) cap')).heap[k]? = W2.heap[k]? := by
        intro k hk hne
        refine (Below.heap_setCell _ _ _ k hne).trans ((hgrow.block k (by simp; omega) (fun e => ?_)).trans (Below.heap_alloc _ _ k (by omega)))
        have := (HRow.out.lt k e.symm).1
        omega
      have HQ := Aside0.mk (And.intro q2 (And.intro q4 (And.intro q5 (And.intro hrow4 hkeep))))
      have y3 := q1.cell
      have y4 := q1.frozen
      clear q1 q2 q3 q4 q5 hrow4 hkeep hnil hgrow hown'
      gi_wp2
      rw [← hsz]
      refine ⟨HQ.out.2.1, ⟨HQ.out.2.1.size, HQ.out.2.2.2.2 _ (by omega) (by omega), HQ.out.2.2.2.2 _ (by omega) (by omega), HQ.out.2.2.2.2 _ (by omega) (by omega), HQ.out.2.2.2.2 _ (by omega) (by omega)⟩, HB2.out.trans HQ.out.2.2.1, _, HQ.out.1, ?_⟩
      have := HQ.out.2.2.2.1
      rw [List.length_append, List.length_singleton, List.flatMap_append, List.flatMap_singleton]
      exact this
  · rintro D W ⟨⟨hB, v, hv, hrow⟩, i2, p', l', ve, hx, hve⟩ hD hK
    have HBz := Aside0.mk hB
    have HRow := Aside0.mk (row_le hrow (by omega : w.heap.size ≤ W1.heap.size))
    have HX := Aside0.mk hx
    have y0 := hv.cell
    have y1 : W.cell? ⟨w.heap.size, 262, none⟩ = some ve := lx_at hx 3
    have HKd := Aside0.mk hK
    clear hB hrow hx hv hK HB1 HX1 HBx1 HPb1 HL1
    cases hres : (lexL s.data.toList).2 with
    | none =>
      rw [hres] at hve
      subst hve
      gi_wp2
      refine ⟨by simp, .inl ⟨_, _, rfl, run_takeDeferred HKd.out, ?_⟩⟩
      refine ⟨_, results_tmp2 rfl _ _ _, HBz.out.grown (grownBy_putObj' _ _ _) HBz.out.size (fun k e => by cases e; omega), ?_⟩
      rw [if_neg (by omega), hres]
      exact ⟨_, rfl, ownsRow_putObj HRow.out _ HKd.out rfl⟩
    | some cp =>
      obtain ⟨c, pl⟩ := cp
      rw [hres] at hve
      obtain ⟨g3, rfl, hg3⟩ := hve
      have HG3 := Aside0.mk hg3
      clear hg3
      gi_wp2
      refine wpIn_wide.2 ?_
      go_quiet (fail)
      go_goals
      have HBq := Aside0.mk (show Below w.heap.size w (W.drewN nq) from ⟨HBz.out.os, HBz.out.tape, HBz.out.output, HBz.out.size, HBz.out.block⟩)
      have HKq := Aside0.mk (show (W.drewN nq).heap[D]? = some (.deferred (some [])) from HKd.out)
      have HGq := Aside0.mk (show (W.drewN nq).heap[g3]? = some (.cells #[.int .i64 c, .int .i64 pl] 37 (0, 0)) from HG3.out)
      generalize W.drewN nq = W9 at *
      gi_wp2
      refine ⟨by simp, .inl ⟨_, _, rfl, run_takeDeferred HKq.out, ?_⟩⟩
      refine ⟨_, results_tmp2 rfl _ _ _, HBq.out.grown (grownBy_putObj' _ _ _) HBq.out.size (fun k e => by cases e; omega), ?_⟩
      rw [if_neg (by omega), hres]
      refine ⟨_, rfl, g3, rfl, (World.putObj_heap_other ?_).trans HGq.out⟩
      rintro rfl
      have := HKq.out.symm.trans HGq.out
      cases this
end Go.Proofs.YtdlfjokhgmngcaaGreatDoor.Lx
