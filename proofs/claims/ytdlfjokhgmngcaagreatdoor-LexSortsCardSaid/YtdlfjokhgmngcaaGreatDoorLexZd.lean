/- A row of tokens laid open; Lex's contract with it; made at any slice. -/
import Derived.Test.YtdlfjokhgmngcaaGreatDoorLexZc
import Derived.Test.YtdlfjokhgmngcaaGreatDoorPLexTellsx3
namespace Go.Proofs.YtdlfjokhgmngcaaGreatDoor.Lx
open Go.RowKit Go.Shelf Go.Proofs.YtdlfjokhgmngcaaGreatDoorW.PrintWords Go.Proofs.YtdlfjokhgmngcaaGreatDoorW.PrintLast Go.Proofs.YtdlfjokhgmngcaaGreatDoorW.PrintMore Go.Proofs.YtdlfjokhgmngcaaGreatDoor.PLexTells
set_option linter.unusedVariables false
set_option linter.unusedSimpArgs false

theorem toks_at : ∀ (l : List Tok) (k : Nat) (x : Tok) (j : Nat), l[k]? = some x → j < 5 → (l.flatMap tokCells)[k * 5 + j]? = (tokCells x)[j]?
  | [], k, x, j, h, _ => by simp at h
  | y :: l, 0, x, j, h, hj => by
    simp only [List.getElem?_cons_zero, Option.some.injEq] at h
    subst h
    rw [List.flatMap_cons, List.getElem?_append_left (by simp [tokCells]; omega)]
    simp
  | y :: l, k + 1, x, j, h, hj => by
    rw [List.flatMap_cons, List.getElem?_append_right (by simp [tokCells]; omega)]
    rw [show (k + 1) * 5 + j - (tokCells y).length = k * 5 + j by simp [tokCells]; omega]
    exact toks_at l k x j (by simpa using h) hj

/-- A row of tokens at the head of block g. -/
structure Row5 (w : World) (g : Nat) (l : List Tok) : Prop where
  cell : ∀ k x, l[k]? = some x → w.cell? ⟨g, k * 5, none⟩ = some (.int .i64 x.k) ∧ w.cell? ⟨g, k * 5 + 1, none⟩ = some (.int .i64 x.a) ∧ w.cell? ⟨g, k * 5 + 2, none⟩ = some (.int .i64 x.l) ∧
    w.cell? ⟨g, k * 5 + 3, none⟩ = some (.string x.t) ∧ w.cell? ⟨g, k * 5 + 4, none⟩ = some (.int .i64 x.n)
  lt : g < w.heap.size
theorem Row5.keep {w w' : World} {g : Nat} {l : List Tok} {B : Nat} (h : Row5 w g l) (hb : Below B w w') (hB : w.heap.size ≤ B) : Row5 w' g l := by
  have hk : w'.heap[g]? = w.heap[g]? := hb.block g (by have := h.lt; omega)
  have hc : ∀ o, w'.cell? ⟨g, o, none⟩ = w.cell? ⟨g, o, none⟩ := fun o => World.cell?_of_block (w := w) (a := ⟨g, o, none⟩) hk
  refine ⟨fun k x hx => ?_, ?_⟩
  · rw [hc, hc, hc, hc, hc]; exact h.cell k x hx
  · have := hb.size; have := h.lt; omega

/-- A slice of tokens: none, or a row. -/
def RowV (w : World) (B : Nat) (a : Option Addr) (l : List Tok) : Prop := (l = [] ∧ a = none) ∨ ∃ g, a = some ⟨g, 0, none⟩ ∧ B ≤ g ∧ Row5 w g l
theorem RowV.get {w : World} {B : Nat} {a : Option Addr} {l : List Tok} (h : RowV w B a l) {k : Nat} (hk : k < l.length) : ∃ g, a = some ⟨g, 0, none⟩ ∧ B ≤ g ∧ Row5 w g l := by
  rcases h with ⟨rfl, _⟩ | h
  · simp at hk
  · exact h
theorem RowV.keep {w w' : World} {B C : Nat} {a : Option Addr} {l : List Tok} (h : RowV w B a l) (hb : Below C w w') (hC : w.heap.size ≤ C) : RowV w' B a l := by
  rcases h with h | ⟨g, h1, h2, h3⟩
  · exact .inl h
  · exact .inr ⟨g, h1, h2, h3.keep hb hC⟩

/-- Behind Lex, laid open. -/
structure LexedV (s : ByteArray) (w : World) (w' : World) (a : Option Addr) (c : Nat) (u : Value) : Prop where
  below : Below w.heap.size w w'
  cap : (lexT s).length ≤ c
  row : RowV w' w.heap.size a (lexT s)
  own : Kd.R k31 31 w' w.heap.size (fun _ => True) (.slice a (lexT s).length c) ((lexT s).map Tok.s)
  err : match lexF s with | none => u = .nilIface | some (c, p) => FaultAt w' u c p

theorem row_of_own {w' : World} {base : Nat} {v : Value} {l : List Tok} (h : w'.ownsRow base 31 5 v l.length (l.flatMap tokCells)) :
    ∃ a c, v = .slice a l.length c ∧ l.length ≤ c ∧ RowV w' base a l := by
  rcases h.2 with ⟨h1, h0⟩ | ⟨g, cap, cur, h1, h2, h3, h4, _⟩
  · obtain rfl := List.length_eq_zero_iff.1 h0
    exact ⟨none, 0, h1, Nat.le_refl _, .inl ⟨rfl, rfl⟩⟩
  · subst h1
    refine ⟨_, cap, rfl, h4, .inr ⟨g, rfl, h2, ⟨fun k x hx => ?_, blk_lt h3⟩⟩⟩
    have hc : ∀ j, j < 5 → ∀ u, (tokCells x)[j]? = some u → w'.cell? ⟨g, k * 5 + j, none⟩ = some u := by
      intro j hj u hu
      have := h.cells (g := g) rfl (k * 5 + j) u (by rw [toks_at l k x j hx hj]; exact hu)
      have e : (⟨g, 0, none⟩ : Addr).add (k * 5 + j) = ⟨g, k * 5 + j, none⟩ := by
        unfold Addr.add
        split
        · simp_all
        · simp
      rw [e] at this
      exact this
    exact ⟨hc 0 (by decide) _ rfl, hc 1 (by decide) _ rfl, hc 2 (by decide) _ rfl, hc 3 (by decide) _ rfl, hc 4 (by decide) _ rfl⟩

theorem Lex_V (s : ByteArray) (w : World) (hs2 : s.size < 2 ^ 62) (hL : Laid w) (hlow : 8 < w.heap.size) :
    Calls Tryz.prog 8 #[.string s] w fun e w' => ∃ a c u, e = .returned (.tuple #[.slice a (lexT s).length c, u]) ∧ LexedV s w w' a c u := by
  by_cases h1 : 20000 < s.size
  · refine (Lex_long s w h1 hs2).mono ?_
    rintro e w' ⟨hb, h⟩
    rw [if_pos h1] at h
    obtain ⟨v, rfl, hv⟩ := h
    have hT : lexT s = [] := by rw [lexT, if_pos h1]
    have hF : lexF s = some (4, 20000) := by rw [lexF, if_pos h1]
    refine ⟨none, 0, v, by rw [hT]; rfl, hb, by rw [hT]; exact Nat.le_refl _, by rw [hT]; exact .inl ⟨rfl, rfl⟩, by rw [hT]; exact Kd.R_nil _ _ _ _ _, by rw [hF]; exact hv⟩
  · refine (Lex_fits s w (by omega) hL hlow).mono ?_
    rintro e w' ⟨hb, h⟩
    rw [if_neg h1] at h
    cases hr : (lexL s.data.toList).2 with
    | none =>
      rw [hr] at h
      obtain ⟨v, rfl, hv⟩ := h
      have hT : lexT s = (lexL s.data.toList).1 := by rw [lexT, if_neg h1, hr]
      have hF : lexF s = none := by rw [lexF, if_neg h1, hr]
      obtain ⟨a, c, rfl, hc, hrow⟩ := row_of_own hv
      refine ⟨a, c, _, by rw [hT], hb, by rw [hT]; exact hc, by rw [hT]; exact hrow, by rw [hT]; exact toks_R hv, by rw [hF]⟩
    | some cp =>
      obtain ⟨c, p⟩ := cp
      rw [hr] at h
      obtain ⟨v, rfl, hv⟩ := h
      have hT : lexT s = [] := by rw [lexT, if_neg h1, hr]
      have hF : lexF s = some (c, p) := by rw [lexF, if_neg h1, hr]
      refine ⟨none, 0, v, by rw [hT]; rfl, hb, by rw [hT]; exact Nat.le_refl _, by rw [hT]; exact .inl ⟨rfl, rfl⟩, by rw [hT]; exact Kd.R_nil _ _ _ _ _, by rw [hF]; exact hv⟩

/-- A slice of bytes that came in. -/
def BytesAt (w : World) (a : Option Addr) (l : List UInt8) : Prop := l = [] ∨ ∃ g o, a = some ⟨g, o, none⟩ ∧ g < w.heap.size ∧ ∀ k x, l[k]? = some x → w.cell? ⟨g, o + k, none⟩ = some (.int .u8 x.toNat)
theorem BytesAt.keep {w w' : World} {C : Nat} {a : Option Addr} {l : List UInt8} (h : BytesAt w a l) (hb : Below C w w') (hC : w.heap.size ≤ C) : BytesAt w' a l := by
  rcases h with h | ⟨g, o, h1, h2, h3⟩
  · exact .inl h
  · have hk : w'.heap[g]? = w.heap[g]? := hb.block g (by omega)
    refine .inr ⟨g, o, h1, by have := hb.size; omega, fun k x hx => ?_⟩
    rw [World.cell?_of_block (w := w) (a := ⟨g, o + k, none⟩) hk]
    exact h3 k x hx

set_option maxRecDepth 100000 in
set_option maxHeartbeats 6400000 in
theorem made_none (a : Option Addr) (c : Nat) (w : World) :
    Calls Tryz.prog 9 #[.slice a 0 c] w fun e w' => e = .returned (.string ⟨#[]⟩) ∧ Below w.heap.size w w' := by
  go_enter Tryz.func9, Tryz.ntmps9
  go_wp2_with fail
  refine (ploverlaw02_pieces.calls piecesL _ pieces_some).mono ?_
  rintro e w1 ⟨v0, rfl, hR, hB⟩
  obtain ⟨pg, pcap, rfl, hpb, hpl, _⟩ := Kd.R_form hR (by rw [pieces_len]; decide)
  have HR := Aside0.mk hR
  have HB := Aside0.mk hB
  clear hR hB
  have hbk : w1.heap[w.heap.size]? = some (.cells #[.pointer none, .slice none 0 0] 48 (0, 0)) := (HB.out.block _ (by simp)).trans (blk_new w _)
  have HB0 := Aside0.mk (show Below w.heap.size w w1 from ((Below.refl _ w).alloc (Nat.le_refl _) _).trans (HB.out.mono (by simp)))
  have HS := Aside0.mk (string_nil w.heap.size w.heap.size (.pointer none) w1 hbk)
  have hbl := blk_lt hbk
  clear hbk
  go_wp2
  go_loopw [5] (fun i wr => i = .int .i64 0 ∧ Aside0 (wr = w1)) (fun i _ => 0)
  case atStart => exact ⟨rfl, ⟨rfl⟩⟩
  case round =>
    obtain ⟨rfl, ⟨rfl⟩⟩ := hrel
    go_wp2_with fail
    refine HS.out.mono ?_
    rintro e w2 ⟨rfl, hb⟩
    have HX := Aside0.mk hb
    clear hb
    go_wp2
    go_ret
    exact ⟨rfl, HB0.out.trans HX.out⟩

theorem made_B (a : Option Addr) (c : Nat) (l : List UInt8) (w : World) (h : BytesAt w a l) (hl : l.length ≤ 9223372036854775807) :
    Calls Tryz.prog 9 #[.slice a l.length c] w fun e w' => e = .returned (.string ⟨(madeL l).toArray⟩) ∧ Below w.heap.size w w' := by
  rcases h with rfl | ⟨g, o, rfl, h2, h3⟩
  · exact made_none a c w
  · exact made_any g o c l w hl h3 h2
end Go.Proofs.YtdlfjokhgmngcaaGreatDoor.Lx
