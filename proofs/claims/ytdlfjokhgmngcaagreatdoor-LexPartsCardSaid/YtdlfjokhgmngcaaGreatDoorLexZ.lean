/- made: a text of pieces.
   Lex's tokens in the printed words.
   Line, and fails.
   works: the chapter's examples.
   A row of tokens laid open; Lex's contract with it; made at any slice. -/
import Derived.Test.YtdlfjokhgmngcaaGreatDoorLexV
import Derived.Test.YtdlfjokhgmngcaaGreatDoorPLexTellsx2
import Derived.Test.YtdlfjokhgmngcaaGreatDoorPLexTellsx3
namespace Go.Proofs.YtdlfjokhgmngcaaGreatDoor.Lx
open Go.RowKit Go.Shelf Go.Proofs.YtdlfjokhgmngcaaGreatDoorW.PrintWords Go.Proofs.YtdlfjokhgmngcaaGreatDoor.PLexTells
set_option linter.unusedVariables false
set_option linter.unusedSimpArgs false

def piecesL : List ByteArray := (ploverlaw02_pieces.f).getD []
theorem pieces_some : ploverlaw02_pieces.f = some piecesL := by
  obtain ⟨r, hr⟩ : ∃ r, ploverlaw02_pieces.f = some r := ⟨_, rfl⟩
  rw [piecesL, hr]; rfl
set_option maxRecDepth 100000 in
theorem pieces_len : piecesL.length = 48 := by decide +kernel
set_option maxRecDepth 100000 in
theorem pieces_pos : ∀ k, k < 48 → 0 < (piecesL.getD k ⟨#[]⟩).size ∧ (piecesL.getD k ⟨#[]⟩).size ≤ 16 := by decide +kernel

/-- The text of pieces. -/
def pieceOf (c : UInt8) : ByteArray := piecesL.getD (c.toNat % 48) ⟨#[]⟩
def madeL (l : List UInt8) : List UInt8 := (l.take 120).flatMap fun c => (pieceOf c).data.toList

theorem madeL_step (l : List UInt8) (i : Nat) (c : UInt8) (h : l[i]? = some c) (hi : i < 120) : madeL (l.take (i + 1)) = madeL (l.take i) ++ (pieceOf c).data.toList := by
  unfold madeL
  rw [List.take_take, List.take_take, Nat.min_eq_right (by omega), Nat.min_eq_right (by omega), List.take_add_one, h, List.flatMap_append]
  simp
theorem pieceOf_size (c : UInt8) : 0 < (pieceOf c).size ∧ (pieceOf c).size ≤ 16 := pieces_pos _ (Nat.mod_lt _ (by decide))
theorem madeL_len (l : List UInt8) (i : Nat) (h : i ≤ 120) : (madeL (l.take i)).length ≤ 16 * i := by
  induction i with
  | zero => simp [madeL]
  | succ i ih =>
    cases hc : l[i]? with
    | none =>
      have : l.take (i + 1) = l.take i := by rw [List.take_add_one, hc]; simp
      rw [this]
      have := ih (by omega)
      omega
    | some c =>
      rw [madeL_step l i c hc (by omega), List.length_append]
      have h1 := ih (by omega)
      have h2 := (pieceOf_size c).2
      simp only [Array.length_toList]
      have : (pieceOf c).data.size = (pieceOf c).size := rfl
      omega

set_option maxRecDepth 100000 in
set_option maxHeartbeats 6400000 in
theorem made_any (g o c : Nat) (l : List UInt8) (w : World) (hl : l.length ≤ 9223372036854775807) (hcell : ∀ k x, l[k]? = some x → w.cell? ⟨g, o + k, none⟩ = some (.int .u8 x.toNat)) (hgw : g < w.heap.size) :
    Calls Tryz.prog 9 #[.slice (some ⟨g, o, none⟩) l.length c] w fun e w' => e = .returned (.string ⟨(madeL l).toArray⟩) ∧ Below w.heap.size w w' := by
  have HC := Aside0.mk hcell
  clear hcell
  go_enter Tryz.func9, Tryz.ntmps9
  go_wp2_with fail
  refine (ploverlaw02_pieces.calls piecesL _ pieces_some).mono ?_
  rintro e w1 ⟨v0, rfl, hR, hB⟩
  obtain ⟨pg, pcap, rfl, hpb, hpl, _⟩ := Kd.R_form hR (by rw [pieces_len]; decide)
  have HR := Aside0.mk hR
  have HB := Aside0.mk hB
  clear hR hB
  have hbk : w1.heap[w.heap.size]? = some (.cells #[.pointer none, .slice none 0 0] 48 (0, 0)) := (HB.out.block _ (by simp)).trans (blk_new w _)
  have HB0 := Aside0.mk (show Below w.heap.size w w1 from ((Below.refl _ w).alloc (Nat.le_refl _) _).trans (HB.out.mono (by simp)))
  have HK := Aside0.mk hbk
  have hbl := blk_lt hbk
  clear hbk
  go_wp2
  go_loopw [5] (fun i wr => ∃ k : Nat, k ≤ l.length ∧ k ≤ 120 ∧ i = .int .i64 k ∧ Aside0 (Below w.heap.size w wr) ∧ Aside0 (wr.heap[pg]? = w1.heap[pg]?) ∧ Aside0 ((k = 0 ∧ wr.heap[w.heap.size]? = some (.cells #[.pointer none, .slice none 0 0] 48 (0, 0))) ∨ (0 < k ∧ Bld w.heap.size w.heap.size (.pointer (some ⟨w.heap.size, 0, none⟩)) (Lib.byteCells (madeL (l.take k))) wr))) (fun i _ => 120 - (intOf i).toNat)
  case atStart => exact ⟨0, by omega, by omega, rfl, HB0, ⟨rfl⟩, ⟨.inl ⟨rfl, HK.out⟩⟩⟩
  case round =>
    clear HB0 HK
    obtain ⟨k, hk1, hk2, rfl, HBw, HPg, HBd⟩ := hrel
    by_cases hlt : k < l.length ∧ k < 120
    · obtain ⟨hlt, hlt2⟩ := hlt
      obtain ⟨x, hx⟩ : ∃ x, l[k]? = some x := ⟨_, List.getElem?_eq_getElem hlt⟩
      have y0 : wr.cell? ⟨g, o + k, none⟩ = some (.int .u8 x.toNat) := by rw [HBw.out.cell hgw]; exact HC.out k x hx
      obtain ⟨c1, hc1⟩ : ∃ c1 : Nat, x.toNat = c1 := ⟨_, rfl⟩
      have hc256 : c1 < 256 := by rw [← hc1]; exact x.toNat_lt
      rw [hc1] at y0
      have hmod : (c1 : Int).tmod 48 = ((c1 % 48 : Nat) : Int) := by rw [Int.tmod_eq_emod_of_nonneg (by omega)]; omega
      have hpl2 : piecesL.length = 48 := pieces_len
      have y1 : wr.cell? ⟨pg, c1 % 48, none⟩ = some (.string (pieceOf x)) := by
        have := (Kd.R_cell (⟨#[]⟩ : ByteArray) HR.out ((c1 % 48 : Nat) : Int) (by omega) (by rw [hpl2]; omega)).1
        rw [World.cell?_of_block (w := w1) (a := ⟨pg, c1 % 48, none⟩) HPg.out]
        rw [pieceOf, hc1]
        exact this
      have HW := Aside0.mk (show Calls Tryz.prog 20 #[.pointer (some ⟨w.heap.size, 0, none⟩), .string (pieceOf x)] wr (fun e w' => e = .returned (.tuple #[.int .i64 (pieceOf x).size, .nilIface]) ∧ Bld w.heap.size w.heap.size (.pointer (some ⟨w.heap.size, 0, none⟩)) (Lib.byteCells (madeL (l.take (k + 1)))) w' ∧ Below w.heap.size wr w' ∧ KeepT w.heap.size wr w') from by
        have heq : Lib.byteCells (madeL (l.take k)) ++ Lib.strCells (pieceOf x) = Lib.byteCells (madeL (l.take (k + 1))) := by
          rw [madeL_step l k x hx hlt2]
          simp [Lib.byteCells, Lib.strCells]
        have hlen : (Lib.byteCells (madeL (l.take k))).length + (pieceOf x).size ≤ 140737488355328 := by
          rw [Lib.byteCells_length]
          have h1 := madeL_len l k (by omega)
          have h2 := (pieceOf_size x).2
          omega
        have := write_any w.heap.size w.heap.size (Lib.byteCells (madeL (l.take k))) (pieceOf x) wr (by
          rcases HBd.out with ⟨rfl, hb⟩ | ⟨_, hb⟩
          · exact .inl ⟨Nat.le_refl _, _, hb, World.ownsRow_nil _ _ _ _, by simp [Value.ownBlock]⟩
          · exact .inr hb) hlen HBw.out.size
        rw [heq] at this
        exact this)
      rw [hpl2]
      go_wp2_with fail
      refine HW.out.mono ?_
      rintro e w2 ⟨rfl, hb2, hb3, hb4⟩
      have HW2 := Aside0.mk hb2
      have HW3 := Aside0.mk hb3
      have HW4 := Aside0.mk hb4
      clear hb2 hb3 hb4 HW y0 y1
      go_wp2
      go_roundw
      case rel =>
        refine ⟨k + 1, by omega, by omega, by go_num, ⟨HBw.out.trans HW3.out⟩, ⟨?_⟩, ⟨.inr ⟨by omega, HW2.out⟩⟩⟩
        obtain ⟨cells, hc⟩ := (show ∃ cells, w1.heap[pg]? = some (.cells cells 9 (0, 0)) by assumption)
        exact (HW4.out pg cells 9 (HPg.out.trans hc) (by decide) (by have : w.heap.size < pg := (by simp at hpb; omega); omega)).trans HPg.out
      case measure => simp [intOf]; omega
    · have hk : l.take k = l.take 120 := by
        by_cases h : k < l.length
        · rw [show k = 120 by omega]
        · rw [List.take_of_length_le (by omega), List.take_of_length_le (by omega)]
      have hmk : madeL l = madeL (l.take k) := by rw [hk]; unfold madeL; rw [List.take_take, Nat.min_self]
      have HS := Aside0.mk (show Calls Tryz.prog 21 #[.pointer (some ⟨w.heap.size, 0, none⟩)] wr fun e w' => e = .returned (.string ⟨(madeL l).toArray⟩) ∧ Below w.heap.size wr w' from by
        rcases HBd.out with ⟨rfl, hb⟩ | ⟨h0, hb⟩
        · rw [hmk]
          exact string_nil w.heap.size w.heap.size _ wr hb
        · rw [hmk]
          refine string_any w.heap.size w.heap.size _ _ wr hb ?_
          obtain ⟨j, rfl⟩ : ∃ j, k = j + 1 := ⟨k - 1, by omega⟩
          obtain ⟨x, hx⟩ : ∃ x, l[j]? = some x := ⟨_, List.getElem?_eq_getElem (by omega)⟩
          rw [madeL_step l j x hx (by omega)]
          intro e
          have h1 := congrArg List.length e
          have h2 := (pieceOf_size x).1
          have h3 : (pieceOf x).data.toList.length = (pieceOf x).size := rfl
          rw [List.length_append, h3, List.length_nil] at h1
          omega)
      clear hmk hk
      by_cases h : k < l.length
      · obtain rfl : k = 120 := by omega
        go_wp2_with fail
        refine HS.out.mono ?_
        rintro e w2 ⟨rfl, hb⟩
        have HX := Aside0.mk hb
        clear hb
        go_wp2
        go_ret
        exact ⟨rfl, HBw.out.trans HX.out⟩
      · go_wp2_with fail
        refine HS.out.mono ?_
        rintro e w2 ⟨rfl, hb⟩
        have HX := Aside0.mk hb
        clear hb
        go_wp2
        go_ret
        exact ⟨rfl, HBw.out.trans HX.out⟩
end Go.Proofs.YtdlfjokhgmngcaaGreatDoor.Lx

/-! Lex's tokens in the printed words. -/
namespace Go.Proofs.YtdlfjokhgmngcaaGreatDoor.Lx
open Go.RowKit Go.Shelf Go.Proofs.YtdlfjokhgmngcaaGreatDoorW.PrintWords Go.Proofs.YtdlfjokhgmngcaaGreatDoor.PLexTells
set_option linter.unusedVariables false
set_option linter.unusedSimpArgs false

def Tok.s (x : Tok) : S31 := ⟨x.k, x.a, x.l, x.t, x.n⟩

theorem reps_from {w : World} {base : Nat} {ok : Nat → Prop} : ∀ (l : List Tok) (pre : List S31) (cs : List Value), Reps (k31.M w base ok) 5 pre cs → Reps (k31.M w base ok) 5 (pre ++ l.map Tok.s) (cs ++ l.flatMap tokCells)
  | [], pre, cs, h => by simpa using h
  | x :: l, pre, cs, h => by
    have h1 := h.snoc (p := x.s) (c := tokCells x) (k31_mkM w base ok x.s) rfl
    have h2 := reps_from l _ _ h1
    simpa [List.append_assoc] using h2

theorem toks_R {w : World} {base : Nat} {v : Value} {l : List Tok} (h : w.ownsRow base 31 5 v l.length (l.flatMap tokCells)) :
    Kd.R k31 31 w base (fun _ => True) v (l.map Tok.s) := by
  refine ⟨fun _ _ => trivial, l.flatMap tokCells, ?_, ?_⟩
  · rw [List.length_map]; exact h
  · have := reps_from (w := w) (base := base) (ok := fun k => True ∧ some k ≠ v.ownBlock) l [] [] (Reps.none _ _)
    rw [List.nil_append, List.nil_append] at this
    exact this

/-- What Lex gives: the tokens (none, where something is wrong), and the fault. -/
def lexT (s : ByteArray) : List Tok := if 20000 < s.size then [] else match (lexL s.data.toList).2 with | some _ => [] | none => (lexL s.data.toList).1
def lexF (s : ByteArray) : Option (Int × Int) := if 20000 < s.size then some (4, 20000) else (lexL s.data.toList).2

/-- Behind Lex, in the printed words. -/
def LexedR (s : ByteArray) (w : World) (e : Ending) (w' : World) : Prop :=
  Below w.heap.size w w' ∧ ∃ v u, e = .returned (.tuple #[v, u]) ∧ Kd.R k31 31 w' w.heap.size (fun _ => True) v ((lexT s).map Tok.s) ∧
    (match lexF s with | none => u = .nilIface | some (c, p) => FaultAt w' u c p)

theorem lexed_R {s : ByteArray} {w : World} {e : Ending} {w' : World} (h : Lexed s w e w') : LexedR s w e w' := by
  obtain ⟨hb, h⟩ := h
  refine ⟨hb, ?_⟩
  by_cases h1 : 20000 < s.size
  · rw [if_pos h1] at h
    obtain ⟨v, rfl, hv⟩ := h
    refine ⟨_, v, rfl, ?_, ?_⟩
    · rw [lexT, if_pos h1]; exact Kd.R_nil _ _ _ _ _
    · rw [lexF, if_pos h1]; exact hv
  · rw [if_neg h1] at h
    cases hr : (lexL s.data.toList).2 with
    | none =>
      rw [hr] at h
      obtain ⟨v, rfl, hv⟩ := h
      refine ⟨v, _, rfl, ?_, ?_⟩
      · rw [lexT, if_neg h1, hr]; exact toks_R hv
      · rw [lexF, if_neg h1, hr]
    | some cp =>
      obtain ⟨c, p⟩ := cp
      rw [hr] at h
      obtain ⟨v, rfl, hv⟩ := h
      refine ⟨_, v, rfl, ?_, ?_⟩
      · rw [lexT, if_neg h1, hr]; exact Kd.R_nil _ _ _ _ _
      · rw [lexF, if_neg h1, hr]; exact hv

theorem Lex_any (s : ByteArray) (w : World) (hs2 : s.size < 2 ^ 62) (hL : Laid w) (hlow : 8 < w.heap.size) : Calls Tryz.prog 8 #[.string s] w (LexedR s w) := by
  by_cases h : 20000 < s.size
  · exact (Lex_long s w h hs2).mono fun _ _ h => lexed_R h
  · exact (Lex_fits s w (by omega) hL hlow).mono fun _ _ h => lexed_R h
end Go.Proofs.YtdlfjokhgmngcaaGreatDoor.Lx

/-! Line, and fails. -/
namespace Go.Proofs.YtdlfjokhgmngcaaGreatDoor.Lx
open Go.RowKit Go.Shelf Go.Proofs.YtdlfjokhgmngcaaGreatDoorW.PrintWords Go.Proofs.YtdlfjokhgmngcaaGreatDoorW.PrintLast Go.Proofs.YtdlfjokhgmngcaaGreatDoorW.PrintMore Go.Proofs.YtdlfjokhgmngcaaGreatDoor.PLexTells
attribute [local go_sem] max2_int min2_int max_two min_two
set_option linter.unusedVariables false
set_option linter.unusedSimpArgs false

set_option maxRecDepth 100000 in
set_option maxHeartbeats 3200000 in
theorem fails_any (s : ByteArray) (c p : Int) (w : World) (hs2 : s.size < 2 ^ 62) (hL : Laid w) (hE : LaidE w) (hlow : 8 < w.heap.size) (hF : lexF s = some (c, p)) (hc : c ≠ 0) :
    Calls Tryz.prog 23 #[.string s, .int .i64 c, .int .i64 p] w fun e w' => e = .returned (.bool true) ∧ Below w.heap.size w w' := by
  have HX := Aside0.mk (Lex_any s w hs2 hL hlow)
  have HE := Aside0.mk hE
  have HF := Aside0.mk hF
  have hT : lexT s = [] := by
    unfold lexF at hF
    unfold lexT
    split
    · rfl
    · rename_i h
      rw [if_neg h] at hF
      rw [hF]
  clear hL hE hF
  go_enter Tryz.func23, Tryz.ntmps23
  go_wp2_with fail
  refine HX.out.mono ?_
  rintro e w1 ⟨hb, v, u, rfl, hR, hU⟩
  rw [hT] at hR
  rw [HF.out] at hU
  obtain ⟨A, cp, rfl⟩ := Kd.R_slice hR
  obtain ⟨g, rfl, hg⟩ := hU
  have HB := Aside0.mk hb
  have HG := Aside0.mk hg
  have HT := Aside0.mk (told_hit g c p w1 (HE.out.keep hb) hg hc)
  clear hR hb hg
  go_wp2_with fail
  refine HT.out.mono ?_
  rintro e w2 ⟨rfl, hb2⟩
  have HB2 := Aside0.mk hb2
  clear hb2
  go_wp2
  go_ret
  exact ⟨rfl, HB.out.trans (HB2.out.mono HB.out.size)⟩

/-- The line of a place. -/
def lineL (s : List UInt8) (a : Int) : Int := 1 + (nls (s.take a.toNat) : Nat)

set_option maxRecDepth 100000 in
set_option maxHeartbeats 3200000 in
theorem Line_any (s : ByteArray) (a : Int) (w : World) (hs2 : s.size < 2 ^ 62) :
    Calls Tryz.prog 17 #[.string s, .int .i64 a] w fun e w' => e = .returned (.int .i64 (lineL s.data.toList a)) ∧ Below w.heap.size w w' := by
  have bd : ∀ q : ByteArray, q.size ≤ s.size → IntKind.i64.wrap (1 + ((nls q.data.toList : Nat) : Int)) = 1 + ((nls q.data.toList : Nat) : Int) := by
    intro q hq
    have : nls q.data.toList ≤ q.size := List.count_le_length
    exact IntWalk.i64_in _ (by omega)
  have w1 := bd (s.extract 0 a.toNat) (by rw [ByteArray.size_extract]; omega)
  have e0 : (s.extract 0 a.toNat).data.toList = s.data.toList.take a.toNat := by
    have := extract_take s 0 a.toNat
    rw [Nat.zero_add, List.drop_zero] at this
    exact this
  rw [e0] at w1
  have w2 : nls ([] : List UInt8) = 0 := rfl
  have w3 := bd s (Nat.le_refl _)
  clear bd
  have E1 := Aside0.mk (show lineL s.data.toList a = 1 + ((nls (s.data.toList.take a.toNat) : Nat) : Int) from rfl)
  clear e0
  have E2 := Aside0.mk (show a ≤ 0 → lineL s.data.toList a = 1 from fun h => by
    rw [lineL, show a.toNat = 0 by omega]; rfl)
  have E3 := Aside0.mk (show (s.size : Int) ≤ a → lineL s.data.toList a = 1 + ((nls s.data.toList : Nat) : Int) from fun h => by
    rw [lineL, List.take_of_length_le]
    simp only [Array.length_toList]
    have : s.data.size = s.size := rfl
    omega)
  have E4 := Aside0.mk (show s.size = 0 → lineL s.data.toList a = 1 from fun h => by
    have h2 : s.data.toList = [] := List.length_eq_zero_iff.1 (by simpa using h)
    rw [lineL, h2, List.take_nil]; rfl)
  go_enter Tryz.func17, Tryz.ntmps17
  go_wp2_with fail
  all_goals
    refine (count_nl _ _).mono ?_
    rintro e w' ⟨rfl, rfl⟩
    go_wp2
    go_ret
    refine ⟨?_, Below.refl _ _⟩
    first | (rw [E3.out (by omega)]; rfl) | (rw [E2.out (by omega)]; rfl) | (rw [E4.out (by omega)]; rfl) | (rw [E1.out]; rfl)
end Go.Proofs.YtdlfjokhgmngcaaGreatDoor.Lx

/-! works: the chapter's examples. -/
namespace Go.Proofs.YtdlfjokhgmngcaaGreatDoor.Lx
open Go.RowKit Go.Shelf Go.Proofs.YtdlfjokhgmngcaaGreatDoorW.PrintWords Go.Proofs.YtdlfjokhgmngcaaGreatDoorW.PrintLast Go.Proofs.YtdlfjokhgmngcaaGreatDoorW.PrintMore Go.Proofs.YtdlfjokhgmngcaaGreatDoor.PLexTells
set_option linter.unusedVariables false
set_option linter.unusedSimpArgs false

deriving instance DecidableEq for Tok

/-- Lex at a text that is right: the tokens' cells. -/
theorem Lex_at (s : ByteArray) (l : List Tok) (w : World) (hs : s.size ≤ 20000) (hr : lexL s.data.toList = (l, none)) (hl : l ≠ []) (hL : Laid w) (hlow : 8 < w.heap.size) :
    Calls Tryz.prog 8 #[.string s] w fun e w' => ∃ g cap, e = .returned (.tuple #[.slice (some ⟨g, 0, none⟩) l.length cap, .nilIface]) ∧ l.length ≤ cap ∧ w.heap.size ≤ g ∧ g < w'.heap.size ∧ Kd.R k31 31 w' w.heap.size (fun _ => True) (.slice (some ⟨g, 0, none⟩) l.length cap) (l.map Tok.s) ∧
      (∀ j u, (l.flatMap tokCells)[j]? = some u → w'.cell? ⟨g, j, none⟩ = some u) ∧ Below w.heap.size w w' := by
  refine (Lex_fits s w hs hL hlow).mono ?_
  rintro e w' ⟨hb, h⟩
  rw [if_neg (by omega), hr] at h
  obtain ⟨v, rfl, hown⟩ := h
  dsimp only at hown
  have hR := toks_R hown
  obtain ⟨g, cap, cur, rfl, hg, hh, hc, _⟩ : ∃ g cap cur, v = .slice (some ⟨g, 0, none⟩) l.length cap ∧ w.heap.size ≤ g ∧ w'.heap[g]? = some (.cells cur 31 (0, 0)) ∧ l.length ≤ cap ∧ True := by
    rcases hown.2 with ⟨_, h0⟩ | ⟨g, cap, cur, h1, h2, h3, h4, _⟩
    · exact absurd (List.length_eq_zero_iff.1 h0) hl
    · exact ⟨g, cap, cur, h1, h2, h3, h4, trivial⟩
  refine ⟨g, cap, rfl, hc, hg, blk_lt hh, hR, ?_, hb⟩
  intro j u hj
  have := hown.cells (g := g) rfl j u hj
  by_cases h0 : j = 0
  · subst h0; simpa [Addr.add] using this
  · simpa [Addr.add, h0] using this

def w1T : ByteArray := ⟨#[120, 49, 32, 61, 32, 48, 120, 49, 70, 59, 32, 47, 47, 32, 101, 110, 100]⟩
set_option maxRecDepth 100000 in
theorem ex1 : lexL w1T.data.toList = ([⟨1, 0, 1, ⟨#[120, 49]⟩, 0⟩, ⟨3, 3, 1, ⟨#[61]⟩, 0⟩, ⟨2, 5, 1, ⟨#[48, 120, 49, 70]⟩, 31⟩, ⟨3, 9, 1, ⟨#[59]⟩, 0⟩, ⟨0, 17, 1, ⟨#[]⟩, 0⟩], none) := by decide +kernel
set_option maxRecDepth 100000 in
theorem ex2 : lexL [97, 60, 60, 61, 50] = ([⟨1, 0, 1, ⟨#[97]⟩, 0⟩, ⟨3, 1, 1, ⟨#[60, 60]⟩, 0⟩, ⟨3, 3, 1, ⟨#[61]⟩, 0⟩, ⟨2, 4, 1, ⟨#[50]⟩, 2⟩, ⟨0, 5, 1, ⟨#[]⟩, 0⟩], none) := by decide +kernel
set_option maxRecDepth 100000 in
theorem ex3 : lexL [] = ([⟨0, 0, 1, ⟨#[]⟩, 0⟩], none) := by decide +kernel
set_option maxRecDepth 100000 in
theorem ex4 : lexF ⟨#[49, 50, 97, 98]⟩ = some (7, 2) := by decide +kernel
set_option maxRecDepth 100000 in
theorem ex5 : lexF ⟨#[48, 120]⟩ = some (7, 2) := by decide +kernel
set_option maxRecDepth 100000 in
theorem ex6 : lexF ⟨#[52, 50, 57, 52, 57, 54, 55, 50, 57, 54]⟩ = some (10, 0) := by decide +kernel
set_option maxRecDepth 100000 in
theorem ex7 : lexF ⟨#[97, 36]⟩ = some (7, 1) := by decide +kernel

theorem lit_C (w : World) (l : List ByteArray) (hl : l.length ≤ 1000) : Kd.C Kd.string (w.alloc (.cells (l.map Value.string).toArray 9)) (some ⟨w.heap.size, 0, none⟩) l.length l := by
  refine ⟨rfl, by omega, fun _ => ⟨_, rfl, fun j p hp => ⟨[.string p], rfl, rfl, fun i u hu => ?_⟩⟩⟩
  obtain ⟨rfl, rfl⟩ : i = 0 ∧ u = .string p := by
    cases i with
    | zero => exact ⟨rfl, by simpa using hu.symm⟩
    | succ i => simp at hu
  have h := blk_cell (blk_new w (.cells (l.map Value.string).toArray 9)) j
  have h2 : (l.map Value.string).toArray[j]? = some (.string p) := by simp [hp]
  rw [h2] at h
  by_cases h0 : j = 0
  · subst h0; simpa [Addr.add, Kd.string, Kd.scalar] using h
  · simpa [Addr.add, Kd.string, Kd.scalar, h0] using h

set_option maxRecDepth 100000 in
set_option maxHeartbeats 6400000 in
theorem works_any (w : World) (hL : Laid w) (hE : LaidE w) (hlow : 8 < w.heap.size) :
    Calls Tryz.prog 7 #[] w fun e w' => e = .returned (.bool true) ∧ Below w.heap.size w w' := by
  have HLd := Aside0.mk hL
  have HE := Aside0.mk hE
  clear hL hE
  go_enter Tryz.func7, Tryz.ntmps7
  go_wp2_with fail
  refine (Lex_at w1T _ w (by decide) ex1 (by decide) HLd.out hlow).mono ?_
  rintro e w1 ⟨g1, c1, rfl, hc1, hg1, hl1, hR1, hz1, hb1⟩
  have HR1 := Aside0.mk hR1
  have HZ1 := Aside0.mk hz1
  have HB1 := Aside0.mk hb1
  have hs1 := hb1.size
  clear hR1 hz1 hb1
  go_wp2_with fail
  refine (Lex_at _ _ w1 (by decide) ex2 (by decide) (HLd.out.keep (HB1.out.block _ (by omega)) (HB1.out.block _ (by omega))) (by omega)).mono ?_
  rintro e w2 ⟨g2, c2, rfl, hc2, hg2, hl2, hR2, hz2, hb2⟩
  have HR2 := Aside0.mk hR2
  have HZ2 := Aside0.mk hz2
  have HB2 := Aside0.mk (HB1.out.trans (hb2.mono HB1.out.size))
  have HB12 := Aside0.mk hb2
  have hs2 := hb2.size
  clear hR2 hz2 hb2
  go_wp2_with fail
  refine (Lex_at _ _ w2 (by decide) ex3 (by decide) (HLd.out.keep (HB2.out.block _ (by omega)) (HB2.out.block _ (by omega))) (by omega)).mono ?_
  rintro e w3 ⟨g3, c3, rfl, hc3, hg3, hl3, hR3, hz3, hb3⟩
  have HR3 := Aside0.mk hR3
  have HZ3 := Aside0.mk hz3
  have HB3 := Aside0.mk (HB2.out.trans (hb3.mono HB2.out.size))
  have HB23 := Aside0.mk hb3
  have hs3 := hb3.size
  clear hR3 hz3 hb3
  go_wp2_with fail
  have HW4 := Aside0.mk (show Below w3.heap.size w3 (w3.alloc (.cells #[.string ⟨#[120, 49]⟩, .string ⟨#[61]⟩, .string ⟨#[48, 120, 49, 70]⟩, .string ⟨#[59]⟩, .string ⟨#[]⟩] 9)) from (Below.refl _ w3).alloc (Nat.le_refl _) _)
  have HC4 := Aside0.mk (show Kd.C Kd.string (w3.alloc (.cells #[.string ⟨#[120, 49]⟩, .string ⟨#[61]⟩, .string ⟨#[48, 120, 49, 70]⟩, .string ⟨#[59]⟩, .string ⟨#[]⟩] 9)) (some ⟨w3.heap.size, 0, none⟩) 5 [⟨#[120, 49]⟩, ⟨#[61]⟩, ⟨#[48, 120, 49, 70]⟩, ⟨#[59]⟩, ⟨#[]⟩] from lit_C w3 [⟨#[120, 49]⟩, ⟨#[61]⟩, ⟨#[48, 120, 49, 70]⟩, ⟨#[59]⟩, ⟨#[]⟩] (by decide))
  generalize w3.alloc (.cells #[.string ⟨#[120, 49]⟩, .string ⟨#[61]⟩, .string ⟨#[48, 120, 49, 70]⟩, .string ⟨#[59]⟩, .string ⟨#[]⟩] 9) = w4 at *
  have HR14 := Aside0.mk (Kd.R_reads' (Kd.R_below HR1.out (((HB12.out.mono (by omega)).trans (HB23.out.mono (by omega))).trans (HW4.out.mono (by omega))))).2.2
  refine (ploverlaw02_texts.calls 10 (some ⟨g1, 0, none⟩) c1 _ (some ⟨w3.heap.size, 0, none⟩) 5 _ true w4 HR14.out hc1 HC4.out (by decide) (by decide +kernel)).mono ?_
  rintro e w5 ⟨rfl, hd5⟩
  have HB15 := Aside0.mk (show Below w1.heap.size w1 w5 from by
    obtain ⟨nd, rfl⟩ := hd5.out
    exact pw_below_drewN (((HB12.out.mono (by omega)).trans (HB23.out.mono (by omega))).trans (HW4.out.mono (by omega))) nd)
  have HB25 := Aside0.mk (show Below w2.heap.size w2 w5 from by
    obtain ⟨nd, rfl⟩ := hd5.out
    exact pw_below_drewN ((HB23.out.mono (by omega)).trans (HW4.out.mono (by omega))) nd)
  have HB35 := Aside0.mk (show Below w3.heap.size w3 w5 from by
    obtain ⟨nd, rfl⟩ := hd5.out
    exact pw_below_drewN HW4.out nd)
  have hs5 := HB35.out.size
  clear hd5
  have y14 : w5.cell? ⟨g1, 14, none⟩ = some (.int .i64 31) := (HB15.out.cell hl1).trans (HZ1.out 14 _ rfl)
  have y10 : w5.cell? ⟨g1, 10, none⟩ = some (.int .i64 2) := (HB15.out.cell hl1).trans (HZ1.out 10 _ rfl)
  have y16 : w5.cell? ⟨g1, 16, none⟩ = some (.int .i64 9) := (HB15.out.cell hl1).trans (HZ1.out 16 _ rfl)
  have y21 : w5.cell? ⟨g1, 21, none⟩ = some (.int .i64 17) := (HB15.out.cell hl1).trans (HZ1.out 21 _ rfl)
  have y20 : w5.cell? ⟨g1, 20, none⟩ = some (.int .i64 0) := (HB15.out.cell hl1).trans (HZ1.out 20 _ rfl)
  go_wp2_with fail
  have HC6 := Aside0.mk (lit_C w5 [⟨#[97]⟩, ⟨#[60, 60]⟩, ⟨#[61]⟩, ⟨#[50]⟩, ⟨#[]⟩] (by decide))
  have HW6 := Aside0.mk (show Below w5.heap.size w5 (w5.alloc (.cells #[.string ⟨#[97]⟩, .string ⟨#[60, 60]⟩, .string ⟨#[61]⟩, .string ⟨#[50]⟩, .string ⟨#[]⟩] 9)) from (Below.refl _ w5).alloc (Nat.le_refl _) _)
  have HR26 := Aside0.mk (Kd.R_reads' (Kd.R_below (w1 := w5.alloc (.cells #[.string ⟨#[97]⟩, .string ⟨#[60, 60]⟩, .string ⟨#[61]⟩, .string ⟨#[50]⟩, .string ⟨#[]⟩] 9)) HR2.out (HB25.out.trans (HW6.out.mono (by omega))))).2.2
  refine (ploverlaw02_texts.calls 10 (some ⟨g2, 0, none⟩) c2 _ (some ⟨w5.heap.size, 0, none⟩) 5 _ true _ HR26.out hc2 HC6.out (by decide) (by decide +kernel)).mono ?_
  rintro e w7 ⟨rfl, hd7⟩
  have HB57 := Aside0.mk (show Below w5.heap.size w5 w7 from by
    obtain ⟨nd, rfl⟩ := hd7.out
    exact pw_below_drewN HW6.out nd)
  have HB37 := Aside0.mk (HB35.out.trans (HB57.out.mono (by omega)))
  have hs7 := HB57.out.size
  clear hd7 y14 y10 y16 y21 y20
  have y0 : w7.cell? ⟨g3, 0, none⟩ = some (.int .i64 0) := (HB37.out.cell hl3).trans (HZ3.out 0 _ rfl)
  have y1 : w7.cell? ⟨g3, 1, none⟩ = some (.int .i64 0) := (HB37.out.cell hl3).trans (HZ3.out 1 _ rfl)
  have y2 : w7.cell? ⟨g3, 2, none⟩ = some (.int .i64 1) := (HB37.out.cell hl3).trans (HZ3.out 2 _ rfl)
  have y3 : w7.cell? ⟨g3, 3, none⟩ = some (.string ⟨#[]⟩) := (HB37.out.cell hl3).trans (HZ3.out 3 _ rfl)
  have y4 : w7.cell? ⟨g3, 4, none⟩ = some (.int .i64 0) := (HB37.out.cell hl3).trans (HZ3.out 4 _ rfl)
  go_wp2_with fail
  have HB7 := Aside0.mk (HB3.out.trans (HB37.out.mono (by omega)))
  clear y0 y1 y2 y3 y4
  refine (fails_any _ 7 2 w7 (by decide) (HLd.out.keep (HB7.out.block _ (by omega)) (HB7.out.block _ (by omega))) (HE.out.keep HB7.out) (by have := HB7.out.size; omega) ex4 (by decide)).mono ?_
  rintro e w8 ⟨rfl, hb8⟩
  have HB8 := Aside0.mk (HB7.out.trans (hb8.mono HB7.out.size))
  clear hb8
  go_wp2_with fail
  refine (fails_any _ 7 2 w8 (by decide) (HLd.out.keep (HB8.out.block _ (by omega)) (HB8.out.block _ (by omega))) (HE.out.keep HB8.out) (by have := HB8.out.size; omega) ex5 (by decide)).mono ?_
  rintro e w9 ⟨rfl, hb9⟩
  have HB9 := Aside0.mk (HB8.out.trans (hb9.mono HB8.out.size))
  clear hb9
  go_wp2_with fail
  refine (fails_any _ 10 0 w9 (by decide) (HLd.out.keep (HB9.out.block _ (by omega)) (HB9.out.block _ (by omega))) (HE.out.keep HB9.out) (by have := HB9.out.size; omega) ex6 (by decide)).mono ?_
  rintro e w10 ⟨rfl, hb10⟩
  have HB10 := Aside0.mk (HB9.out.trans (hb10.mono HB9.out.size))
  clear hb10
  go_wp2_with fail
  refine (fails_any _ 7 1 w10 (by decide) (HLd.out.keep (HB10.out.block _ (by omega)) (HB10.out.block _ (by omega))) (HE.out.keep HB10.out) (by have := HB10.out.size; omega) ex7 (by decide)).mono ?_
  rintro e w11 ⟨rfl, hb11⟩
  have HB11 := Aside0.mk (HB10.out.trans (hb11.mono HB10.out.size))
  clear hb11
  go_wp2
  go_ret
  exact ⟨rfl, HB11.out⟩
end Go.Proofs.YtdlfjokhgmngcaaGreatDoor.Lx

/-! A row of tokens laid open; Lex's contract with it; made at any slice. -/
namespace Go.Proofs.YtdlfjokhgmngcaaGreatDoor.Lx
open Go.RowKit Go.Shelf Go.Proofs.YtdlfjokhgmngcaaGreatDoorW.PrintWords Go.Proofs.YtdlfjokhgmngcaaGreatDoorW.PrintLast Go.Proofs.YtdlfjokhgmngcaaGreatDoorW.PrintMore Go.Proofs.YtdlfjokhgmngcaaGreatDoor.PLexTells
set_option linter.unusedVariables false
set_option linter.unusedSimpArgs false

theorem toks_at : ∀ (l : List Tok) (k : Nat) (x : Tok) (j : Nat), l[k]? = some x → j < 5 → (l.flatMap tokCells)[k * 5 + j]? = (tokCells x)[j]?
  | [], k, x, j, h, _ => by simp at h
  | y :: l, 0, x, j, h, hj => by
    simp only [List.getElem?_cons_zero, Option.some.injEq] at h
    subst h
    rw [List.flatMap_cons, List.getElem?_append_left (by simp [tokCells]; omega)]
    simp
  | y :: l, k + 1, x, j, h, hj => by
    rw [List.flatMap_cons, List.getElem?_append_right (by simp [tokCells]; omega)]
    rw [show (k + 1) * 5 + j - (tokCells y).length = k * 5 + j by simp [tokCells]; omega]
    exact toks_at l k x j (by simpa using h) hj

/-- A row of tokens at the head of block g. -/
structure Row5 (w : World) (g : Nat) (l : List Tok) : Prop where
  cell : ∀ k x, l[k]? = some x → w.cell? ⟨g, k * 5, none⟩ = some (.int .i64 x.k) ∧ w.cell? ⟨g, k * 5 + 1, none⟩ = some (.int .i64 x.a) ∧ w.cell? ⟨g, k * 5 + 2, none⟩ = some (.int .i64 x.l) ∧
    w.cell? ⟨g, k * 5 + 3, none⟩ = some (.string x.t) ∧ w.cell? ⟨g, k * 5 + 4, none⟩ = some (.int .i64 x.n)
  lt : g < w.heap.size
theorem Row5.keep {w w' : World} {g : Nat} {l : List Tok} {B : Nat} (h : Row5 w g l) (hb : Below B w w') (hB : w.heap.size ≤ B) : Row5 w' g l := by
  have hk : w'.heap[g]? = w.heap[g]? := hb.block g (by have := h.lt; omega)
  have hc : ∀ o, w'.cell? ⟨g, o, none⟩ = w.cell? ⟨g, o, none⟩ := fun o => World.cell?_of_block (w := w) (a := ⟨g, o, none⟩) hk
  refine ⟨fun k x hx => ?_, ?_⟩
  · rw [hc, hc, hc, hc, hc]; exact h.cell k x hx
  · have := hb.size; have := h.lt; omega

/-- A slice of tokens: none, or a row. -/
def RowV (w : World) (B : Nat) (a : Option Addr) (l : List Tok) : Prop := (l = [] ∧ a = none) ∨ ∃ g, a = some ⟨g, 0, none⟩ ∧ B ≤ g ∧ Row5 w g l
theorem RowV.get {w : World} {B : Nat} {a : Option Addr} {l : List Tok} (h : RowV w B a l) {k : Nat} (hk : k < l.length) : ∃ g, a = some ⟨g, 0, none⟩ ∧ B ≤ g ∧ Row5 w g l := by
  rcases h with ⟨rfl, _⟩ | h
  · simp at hk
  · exact h
theorem RowV.keep {w w' : World} {B C : Nat} {a : Option Addr} {l : List Tok} (h : RowV w B a l) (hb : Below C w w') (hC : w.heap.size ≤ C) : RowV w' B a l := by
  rcases h with h | ⟨g, h1, h2, h3⟩
  · exact .inl h
  · exact .inr ⟨g, h1, h2, h3.keep hb hC⟩

/-- Behind Lex, laid open. -/
structure LexedV (s : ByteArray) (w : World) (w' : World) (a : Option Addr) (c : Nat) (u : Value) : Prop where
  below : Below w.heap.size w w'
  cap : (lexT s).length ≤ c
  row : RowV w' w.heap.size a (lexT s)
  own : Kd.R k31 31 w' w.heap.size (fun _ => True) (.slice a (lexT s).length c) ((lexT s).map Tok.s)
  err : match lexF s with | none => u = .nilIface | some (c, p) => FaultAt w' u c p

theorem row_of_own {w' : World} {base : Nat} {v : Value} {l : List Tok} (h : w'.ownsRow base 31 5 v l.length (l.flatMap tokCells)) :
    ∃ a c, v = .slice a l.length c ∧ l.length ≤ c ∧ RowV w' base a l := by
  rcases h.2 with ⟨h1, h0⟩ | ⟨g, cap, cur, h1, h2, h3, h4, _⟩
  · obtain rfl := List.length_eq_zero_iff.1 h0
    exact ⟨none, 0, h1, Nat.le_refl _, .inl ⟨rfl, rfl⟩⟩
  · subst h1
    refine ⟨_, cap, rfl, h4, .inr ⟨g, rfl, h2, ⟨fun k x hx => ?_, blk_lt h3⟩⟩⟩
    have hc : ∀ j, j < 5 → ∀ u, (tokCells x)[j]? = some u → w'.cell? ⟨g, k * 5 + j, none⟩ = some u := by
      intro j hj u hu
      have := h.cells (g := g) rfl (k * 5 + j) u (by rw [toks_at l k x j hx hj]; exact hu)
      have e : (⟨g, 0, none⟩ : Addr).add (k * 5 + j) = ⟨g, k * 5 + j, none⟩ := by
        unfold Addr.add
        split
        · simp_all
        · simp
      rw [e] at this
      exact this
    exact ⟨hc 0 (by decide) _ rfl, hc 1 (by decide) _ rfl, hc 2 (by decide) _ rfl, hc 3 (by decide) _ rfl, hc 4 (by decide) _ rfl⟩

theorem Lex_V (s : ByteArray) (w : World) (hs2 : s.size < 2 ^ 62) (hL : Laid w) (hlow : 8 < w.heap.size) :
    Calls Tryz.prog 8 #[.string s] w fun e w' => ∃ a c u, e = .returned (.tuple #[.slice a (lexT s).length c, u]) ∧ LexedV s w w' a c u := by
  by_cases h1 : 20000 < s.size
  · refine (Lex_long s w h1 hs2).mono ?_
    rintro e w' ⟨hb, h⟩
    rw [if_pos h1] at h
    obtain ⟨v, rfl, hv⟩ := h
    have hT : lexT s = [] := by rw [lexT, if_pos h1]
    have hF : lexF s = some (4, 20000) := by rw [lexF, if_pos h1]
    refine ⟨none, 0, v, by rw [hT]; rfl, hb, by rw [hT]; exact Nat.le_refl _, by rw [hT]; exact .inl ⟨rfl, rfl⟩, by rw [hT]; exact Kd.R_nil _ _ _ _ _, by rw [hF]; exact hv⟩
  · refine (Lex_fits s w (by omega) hL hlow).mono ?_
    rintro e w' ⟨hb, h⟩
    rw [if_neg h1] at h
    cases hr : (lexL s.data.toList).2 with
    | none =>
      rw [hr] at h
      obtain ⟨v, rfl, hv⟩ := h
      have hT : lexT s = (lexL s.data.toList).1 := by rw [lexT, if_neg h1, hr]
      have hF : lexF s = none := by rw [lexF, if_neg h1, hr]
      obtain ⟨a, c, rfl, hc, hrow⟩ := row_of_own hv
      refine ⟨a, c, _, by rw [hT], hb, by rw [hT]; exact hc, by rw [hT]; exact hrow, by rw [hT]; exact toks_R hv, by rw [hF]⟩
    | some cp =>
      obtain ⟨c, p⟩ := cp
      rw [hr] at h
      obtain ⟨v, rfl, hv⟩ := h
      have hT : lexT s = [] := by rw [lexT, if_neg h1, hr]
      have hF : lexF s = some (c, p) := by rw [lexF, if_neg h1, hr]
      refine ⟨none, 0, v, by rw [hT]; rfl, hb, by rw [hT]; exact Nat.le_refl _, by rw [hT]; exact .inl ⟨rfl, rfl⟩, by rw [hT]; exact Kd.R_nil _ _ _ _ _, by rw [hF]; exact hv⟩

/-- A slice of bytes that came in. -/
def BytesAt (w : World) (a : Option Addr) (l : List UInt8) : Prop := l = [] ∨ ∃ g o, a = some ⟨g, o, none⟩ ∧ g < w.heap.size ∧ ∀ k x, l[k]? = some x → w.cell? ⟨g, o + k, none⟩ = some (.int .u8 x.toNat)
theorem BytesAt.keep {w w' : World} {C : Nat} {a : Option Addr} {l : List UInt8} (h : BytesAt w a l) (hb : Below C w w') (hC : w.heap.size ≤ C) : BytesAt w' a l := by
  rcases h with h | ⟨g, o, h1, h2, h3⟩
  · exact .inl h
  · have hk : w'.heap[g]? = w.heap[g]? := hb.block g (by omega)
    refine .inr ⟨g, o, h1, by have := hb.size; omega, fun k x hx => ?_⟩
    rw [World.cell?_of_block (w := w) (a := ⟨g, o + k, none⟩) hk]
    exact h3 k x hx

set_option maxRecDepth 100000 in
set_option maxHeartbeats 6400000 in
theorem made_none (a : Option Addr) (c : Nat) (w : World) :
    Calls Tryz.prog 9 #[.slice a 0 c] w fun e w' => e = .returned (.string ⟨#[]⟩) ∧ Below w.heap.size w w' := by
  go_enter Tryz.func9, Tryz.ntmps9
  go_wp2_with fail
  refine (ploverlaw02_pieces.calls piecesL _ pieces_some).mono ?_
  rintro e w1 ⟨v0, rfl, hR, hB⟩
  obtain ⟨pg, pcap, rfl, hpb, hpl, _⟩ := Kd.R_form hR (by rw [pieces_len]; decide)
  have HR := Aside0.mk hR
  have HB := Aside0.mk hB
  clear hR hB
  have hbk : w1.heap[w.heap.size]? = some (.cells #[.pointer none, .slice none 0 0] 48 (0, 0)) := (HB.out.block _ (by simp)).trans (blk_new w _)
  have HB0 := Aside0.mk (show Below w.heap.size w w1 from ((Below.refl _ w).alloc (Nat.le_refl _) _).trans (HB.out.mono (by simp)))
  have HS := Aside0.mk (string_nil w.heap.size w.heap.size (.pointer none) w1 hbk)
  have hbl := blk_lt hbk
  clear hbk
  go_wp2
  go_loopw [5] (fun i wr => i = .int .i64 0 ∧ Aside0 (wr = w1)) (fun i _ => 0)
  case atStart => exact ⟨rfl, ⟨rfl⟩⟩
  case round =>
    obtain ⟨rfl, ⟨rfl⟩⟩ := hrel
    go_wp2_with fail
    refine HS.out.mono ?_
    rintro e w2 ⟨rfl, hb⟩
    have HX := Aside0.mk hb
    clear hb
    go_wp2
    go_ret
    exact ⟨rfl, HB0.out.trans HX.out⟩

theorem made_B (a : Option Addr) (c : Nat) (l : List UInt8) (w : World) (h : BytesAt w a l) (hl : l.length ≤ 9223372036854775807) :
    Calls Tryz.prog 9 #[.slice a l.length c] w fun e w' => e = .returned (.string ⟨(madeL l).toArray⟩) ∧ Below w.heap.size w w' := by
  rcases h with rfl | ⟨g, o, rfl, h2, h3⟩
  · exact made_none a c w
  · exact made_any g o c l w hl h3 h2
end Go.Proofs.YtdlfjokhgmngcaaGreatDoor.Lx
