/- made: a text of pieces. -/
import Derived.Test.YtdlfjokhgmngcaaGreatDoorLexY
import Derived.Test.YtdlfjokhgmngcaaGreatDoorPLexTellsx2
namespace Go.Proofs.YtdlfjokhgmngcaaGreatDoor.Lx
open Go.RowKit Go.Shelf Go.Proofs.YtdlfjokhgmngcaaGreatDoorW.PrintWords Go.Proofs.YtdlfjokhgmngcaaGreatDoor.PLexTells
set_option linter.unusedVariables false
set_option linter.unusedSimpArgs false

def piecesL : List ByteArray := (ploverlaw02_pieces.f).getD []
theorem pieces_some : ploverlaw02_pieces.f = some piecesL := by
  obtain ⟨r, hr⟩ : ∃ r, ploverlaw02_pieces.f = some r := ⟨_, rfl⟩
  rw [piecesL, hr]; rfl
set_option maxRecDepth 100000 in
theorem pieces_len : piecesL.length = 48 := by decide +kernel
set_option maxRecDepth 100000 in
theorem pieces_pos : ∀ k, k < 48 → 0 < (piecesL.getD k ⟨#[]⟩).size ∧ (piecesL.getD k ⟨#[]⟩).size ≤ 16 := by decide +kernel

/-- The text of pieces. -/
def pieceOf (c : UInt8) : ByteArray := piecesL.getD (c.toNat % 48) ⟨#[]⟩
def madeL (l : List UInt8) : List UInt8 := (l.take 120).flatMap fun c => (pieceOf c).data.toList

theorem madeL_step (l : List UInt8) (i : Nat) (c : UInt8) (h : l[i]? = some c) (hi : i < 120) : madeL (l.take (i + 1)) = madeL (l.take i) ++ (pieceOf c).data.toList := by
  unfold madeL
  rw [List.take_take, List.take_take, Nat.min_eq_right (by omega), Nat.min_eq_right (by omega), List.take_add_one, h, List.flatMap_append]
  simp
theorem pieceOf_size (c : UInt8) : 0 < (pieceOf c).size ∧ (pieceOf c).size ≤ 16 := pieces_pos _ (Nat.mod_lt _ (by decide))
theorem madeL_len (l : List UInt8) (i : Nat) (h : i ≤ 120) : (madeL (l.take i)).length ≤ 16 * i := by
  induction i with
  | zero => simp [madeL]
  | succ i ih =>
    cases hc : l[i]? with
    | none =>
      have : l.take (i + 1) = l.take i := by rw [List.take_add_one, hc]; simp
      rw [this]
      have := ih (by omega)
      omega
    | some c =>
      rw [madeL_step l i c hc (by omega), List.length_append]
      have h1 := ih (by omega)
      have h2 := (pieceOf_size c).2
      simp only [Array.length_toList]
      have : (pieceOf c).data.size = (pieceOf c).size := rfl
      omega

set_option maxRecDepth 100000 in
set_option maxHeartbeats 6400000 in
theorem made_any (g o c : Nat) (l : List UInt8) (w : World) (hl : l.length ≤ 9223372036854775807) (hcell : ∀ k x, l[k]? = some x → w.cell? ⟨g, o + k, none⟩ = some (.int .u8 x.toNat)) (hgw : g < w.heap.size) :
    Calls Tryz.prog 9 #[.slice (some ⟨g, o, none⟩) l.length c] w fun e w' => e = .returned (.string ⟨(madeL l).toArray⟩) ∧ Below w.heap.size w w' := by
  have HC := Aside0.mk hcell
  clear hcell
  go_enter Tryz.func9, Tryz.ntmps9
  go_wp2_with fail
  refine (ploverlaw02_pieces.calls piecesL _ pieces_some).mono ?_
  rintro e w1 ⟨v0, rfl, hR, hB⟩
  obtain ⟨pg, pcap, rfl, hpb, hpl, _⟩ := Kd.R_form hR (by rw [pieces_len]; decide)
  have HR := Aside0.mk hR
  have HB := Aside0.mk hB
  clear hR hB
  have hbk : w1.heap[w.heap.size]? = some (.cells #[.pointer none, .slice none 0 0] 48 (0, 0)) := (HB.out.block _ (by simp)).trans (blk_new w _)
  have HB0 := Aside0.mk (show Below w.heap.size w w1 from ((Below.refl _ w).alloc (Nat.le_refl _) _).trans (HB.out.mono (by simp)))
  have HK := Aside0.mk hbk
  have hbl := blk_lt hbk
  clear hbk
  go_wp2
  go_loopw [5] (fun i wr => ∃ k : Nat, k ≤ l.length ∧ k ≤ 120 ∧ i = .int .i64 k ∧ Aside0 (Below w.heap.size w wr) ∧ Aside0 (wr.heap[pg]? = w1.heap[pg]?) ∧ Aside0 ((k = 0 ∧ wr.heap[w.heap.size]? = some (.cells #[.pointer none, .slice none 0 0] 48 (0, 0))) ∨ (0 < k ∧ Bld w.heap.size w.heap.size (.pointer (some ⟨w.heap.size, 0, none⟩)) (Lib.byteCells (madeL (l.take k))) wr))) (fun i _ => 120 - (intOf i).toNat)
  case atStart => exact ⟨0, by omega, by omega, rfl, HB0, ⟨rfl⟩, ⟨.inl ⟨rfl, HK.out⟩⟩⟩
  case round =>
    clear HB0 HK
    obtain ⟨k, hk1, hk2, rfl, HBw, HPg, HBd⟩ := hrel
    by_cases hlt : k < l.length ∧ k < 120
    · obtain ⟨hlt, hlt2⟩ := hlt
      obtain ⟨x, hx⟩ : ∃ x, l[k]? = some x := ⟨_, List.getElem?_eq_getElem hlt⟩
      have y0 : wr.cell? ⟨g, o + k, none⟩ = some (.int .u8 x.toNat) := by rw [HBw.out.cell hgw]; exact HC.out k x hx
      obtain ⟨c1, hc1⟩ : ∃ c1 : Nat, x.toNat = c1 := ⟨_, rfl⟩
      have hc256 : c1 < 256 := by rw [← hc1]; exact x.toNat_lt
      rw [hc1] at y0
      have hmod : (c1 : Int).tmod 48 = ((c1 % 48 : Nat) : Int) := by rw [Int.tmod_eq_emod_of_nonneg (by omega)]; omega
      have hpl2 : piecesL.length = 48 := pieces_len
      have y1 : wr.cell? ⟨pg, c1 % 48, none⟩ = some (.string (pieceOf x)) := by
        have := (Kd.R_cell (⟨#[]⟩ : ByteArray) HR.out ((c1 % 48 : Nat) : Int) (by omega) (by rw [hpl2]; omega)).1
        rw [World.cell?_of_block (w := w1) (a := ⟨pg, c1 % 48, none⟩) HPg.out]
        rw [pieceOf, hc1]
        exact this
      have HW := Aside0.mk (show Calls Tryz.prog 20 #[.pointer (some ⟨w.heap.size, 0, none⟩), .string (pieceOf x)] wr (fun e w' => e = .returned (.tuple #[.int .i64 (pieceOf x).size, .nilIface]) ∧ Bld w.heap.size w.heap.size (.pointer (some ⟨w.heap.size, 0, none⟩)) (Lib.byteCells (madeL (l.take (k + 1)))) w' ∧ Below w.heap.size wr w' ∧ KeepT w.heap.size wr w') from by
        have heq : Lib.byteCells (madeL (l.take k)) ++ Lib.strCells (pieceOf x) = Lib.byteCells (madeL (l.take (k + 1))) := by
          rw [madeL_step l k x hx hlt2]
          simp [Lib.byteCells, Lib.strCells]
        have hlen : (Lib.byteCells (madeL (l.take k))).length + (pieceOf x).size ≤ 140737488355328 := by
          rw [Lib.byteCells_length]
          have h1 := madeL_len l k (by omega)
          have h2 := (pieceOf_size x).2
          omega
        have := write_any w.heap.size w.heap.size (Lib.byteCells (madeL (l.take k))) (pieceOf x) wr (by
          rcases HBd.out with ⟨rfl, hb⟩ | ⟨_, hb⟩
          · exact .inl ⟨Nat.le_refl _, _, hb, World.ownsRow_nil _ _ _ _, by simp [Value.ownBlock]⟩
          · exact .inr hb) hlen HBw.out.size
        rw [heq] at this
        exact this)
      rw [hpl2]
      go_wp2_with fail
      refine HW.out.mono ?_
      rintro e w2 ⟨rfl, hb2, hb3, hb4⟩
      have HW2 := Aside0.mk hb2
      have HW3 := Aside0.mk hb3
      have HW4 := Aside0.mk hb4
      clear hb2 hb3 hb4 HW y0 y1
      go_wp2
      go_roundw
      case rel =>
        refine ⟨k + 1, by omega, by omega, by go_num, ⟨HBw.out.trans HW3.out⟩, ⟨?_⟩, ⟨.inr ⟨by omega, HW2.out⟩⟩⟩
        obtain ⟨cells, hc⟩ := (show ∃ cells, w1.heap[pg]? = some (.cells cells 9 (0, 0)) by assumption)
        exact (HW4.out pg cells 9 (HPg.out.trans hc) (by decide) (by have : w.heap.size < pg := (by simp at hpb; omega); omega)).trans HPg.out
      case measure => simp [intOf]; omega
    · have hk : l.take k = l.take 120 := by
        by_cases h : k < l.length
        · rw [show k = 120 by omega]
        · rw [List.take_of_length_le (by omega), List.take_of_length_le (by omega)]
      have hmk : madeL l = madeL (l.take k) := by rw [hk]; unfold madeL; rw [List.take_take, Nat.min_self]
      have HS := Aside0.mk (show Calls Tryz.prog 21 #[.pointer (some ⟨w.heap.size, 0, none⟩)] wr fun e w' => e = .returned (.string ⟨(madeL l).toArray⟩) ∧ Below w.heap.size wr w' from by
        rcases HBd.out with ⟨rfl, hb⟩ | ⟨h0, hb⟩
        · rw [hmk]
          exact string_nil w.heap.size w.heap.size _ wr hb
        · rw [hmk]
          refine string_any w.heap.size w.heap.size _ _ wr hb ?_
          obtain ⟨j, rfl⟩ : ∃ j, k = j + 1 := ⟨k - 1, by omega⟩
          obtain ⟨x, hx⟩ : ∃ x, l[j]? = some x := ⟨_, List.getElem?_eq_getElem (by omega)⟩
          rw [madeL_step l j x hx (by omega)]
          intro e
          have h1 := congrArg List.length e
          have h2 := (pieceOf_size x).1
          have h3 : (pieceOf x).data.toList.length = (pieceOf x).size := rfl
          rw [List.length_append, h3, List.length_nil] at h1
          omega)
      clear hmk hk
      by_cases h : k < l.length
      · obtain rfl : k = 120 := by omega
        go_wp2_with fail
        refine HS.out.mono ?_
        rintro e w2 ⟨rfl, hb⟩
        have HX := Aside0.mk hb
        clear hb
        go_wp2
        go_ret
        exact ⟨rfl, HBw.out.trans HX.out⟩
      · go_wp2_with fail
        refine HS.out.mono ?_
        rintro e w2 ⟨rfl, hb⟩
        have HX := Aside0.mk hb
        clear hb
        go_wp2
        go_ret
        exact ⟨rfl, HBw.out.trans HX.out⟩
end Go.Proofs.YtdlfjokhgmngcaaGreatDoor.Lx
