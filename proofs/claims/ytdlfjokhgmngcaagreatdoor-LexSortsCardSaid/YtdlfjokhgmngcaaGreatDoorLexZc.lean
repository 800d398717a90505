/- works: the chapter's examples. -/
import Derived.Test.YtdlfjokhgmngcaaGreatDoorLexZb
namespace Go.Proofs.YtdlfjokhgmngcaaGreatDoor.Lx
open Go.RowKit Go.Shelf Go.Proofs.YtdlfjokhgmngcaaGreatDoorW.PrintWords Go.Proofs.YtdlfjokhgmngcaaGreatDoorW.PrintLast Go.Proofs.YtdlfjokhgmngcaaGreatDoorW.PrintMore Go.Proofs.YtdlfjokhgmngcaaGreatDoor.PLexTells
set_option linter.unusedVariables false
set_option linter.unusedSimpArgs false

deriving instance DecidableEq for Tok

/-- Lex at a text that is right: the tokens' cells. -/
theorem Lex_at (s : ByteArray) (l : List Tok) (w : World) (hs : s.size ≤ 20000) (hr : lexL s.data.toList = (l, none)) (hl : l ≠ []) (hL : Laid w) (hlow : 8 < w.heap.size) :
    Calls Tryz.prog 8 #[.string s] w fun e w' => ∃ g cap, e = .returned (.tuple #[.slice (some ⟨g, 0, none⟩) l.length cap, .nilIface]) ∧ l.length ≤ cap ∧ w.heap.size ≤ g ∧ g < w'.heap.size ∧ Kd.R k31 31 w' w.heap.size (fun _ => True) (.slice (some ⟨g, 0, none⟩) l.length cap) (l.map Tok.s) ∧
      (∀ j u, (l.flatMap tokCells)[j]? = some u → w'.cell? ⟨g, j, none⟩ = some u) ∧ Below w.heap.size w w' := by
  refine (Lex_fits s w hs hL hlow).mono ?_
  rintro e w' ⟨hb, h⟩
  rw [if_neg (by omega), hr] at h
  obtain ⟨v, rfl, hown⟩ := h
  dsimp only at hown
  have hR := toks_R hown
  obtain ⟨g, cap, cur, rfl, hg, hh, hc, _⟩ : ∃ g cap cur, v = .slice (some ⟨g, 0, none⟩) l.length cap ∧ w.heap.size ≤ g ∧ w'.heap[g]? = some (.cells cur 31 (0, 0)) ∧ l.length ≤ cap ∧ True := by
    rcases hown.2 with ⟨_, h0⟩ | ⟨g, cap, cur, h1, h2, h3, h4, _⟩
    · exact absurd (List.length_eq_zero_iff.1 h0) hl
    · exact ⟨g, cap, cur, h1, h2, h3, h4, trivial⟩
  refine ⟨g, cap, rfl, hc, hg, blk_lt hh, hR, ?_, hb⟩
  intro j u hj
  have := hown.cells (g := g) rfl j u hj
  by_cases h0 : j = 0
  · subst h0; simpa [Addr.add] using this
  · simpa [Addr.add, h0] using this

def w1T : ByteArray := ⟨#[120, 49, 32, 61, 32, 48, 120, 49, 70, 59, 32, 47, 47, 32, 101, 110, 100]⟩
set_option maxRecDepth 100000 in
theorem ex1 : lexL w1T.data.toList = ([⟨1, 0, 1, ⟨#[120, 49]⟩, 0⟩, ⟨3, 3, 1, ⟨#[61]⟩, 0⟩, ⟨2, 5, 1, ⟨#[48, 120, 49, 70]⟩, 31⟩, ⟨3, 9, 1, ⟨#[59]⟩, 0⟩, ⟨0, 17, 1, ⟨#[]⟩, 0⟩], none) := by decide +kernel
set_option maxRecDepth 100000 in
theorem ex2 : lexL [97, 60, 60, 61, 50] = ([⟨1, 0, 1, ⟨#[97]⟩, 0⟩, ⟨3, 1, 1, ⟨#[60, 60]⟩, 0⟩, ⟨3, 3, 1, ⟨#[61]⟩, 0⟩, ⟨2, 4, 1, ⟨#[50]⟩, 2⟩, ⟨0, 5, 1, ⟨#[]⟩, 0⟩], none) := by decide +kernel
set_option maxRecDepth 100000 in
theorem ex3 : lexL [] = ([⟨0, 0, 1, ⟨#[]⟩, 0⟩], none) := by decide +kernel
set_option maxRecDepth 100000 in
theorem ex4 : lexF ⟨#[49, 50, 97, 98]⟩ = some (7, 2) := by decide +kernel
set_option maxRecDepth 100000 in
theorem ex5 : lexF ⟨#[48, 120]⟩ = some (7, 2) := by decide +kernel
set_option maxRecDepth 100000 in
theorem ex6 : lexF ⟨#[52, 50, 57, 52, 57, 54, 55, 50, 57, 54]⟩ = some (10, 0) := by decide +kernel
set_option maxRecDepth 100000 in
theorem ex7 : lexF ⟨#[97, 36]⟩ = some (7, 1) := by decide +kernel

theorem lit_C (w : World) (l : List ByteArray) (hl : l.length ≤ 1000) : Kd.C Kd.string (w.alloc (.cells (l.map Value.string).toArray 9)) (some ⟨w.heap.size, 0, none⟩) l.length l := by
  refine ⟨rfl, by omega, fun _ => ⟨_, rfl, fun j p hp => ⟨[.string p], rfl, rfl, fun i u hu => ?_⟩⟩⟩
  obtain ⟨rfl, rfl⟩ : i = 0 ∧ u = .string p := by
    cases i with
    | zero => exact ⟨rfl, by simpa using hu.symm⟩
    | succ i => simp at hu
  have h := blk_cell (blk_new w (.cells (l.map Value.string).toArray 9)) j
  have h2 : (l.map Value.string).toArray[j]? = some (.string p) := by simp [hp]
  rw [h2] at h
  by_cases h0 : j = 0
  · subst h0; simpa [Addr.add, Kd.string, Kd.scalar] using h
  · simpa [Addr.add, Kd.string, Kd.scalar, h0] using h

set_option maxRecDepth 100000 in
set_option maxHeartbeats 6400000 in
theorem works_any (w : World) (hL : Laid w) (hE : LaidE w) (hlow : 8 < w.heap.size) :
    Calls Tryz.prog 7 #[] w fun e w' => e = .returned (.bool true) ∧ Below w.heap.size w w' := by
  have HLd := Aside0.mk hL
  have HE := Aside0.mk hE
  clear hL hE
  go_enter Tryz.func7, Tryz.ntmps7
  go_wp2_with fail
  refine (Lex_at w1T _ w (by decide) ex1 (by decide) HLd.out hlow).mono ?_
  rintro e w1 ⟨g1, c1, rfl, hc1, hg1, hl1, hR1, hz1, hb1⟩
  have HR1 := Aside0.mk hR1
  have HZ1 := Aside0.mk hz1
  have HB1 := Aside0.mk hb1
  have hs1 := hb1.size
  clear hR1 hz1 hb1
  go_wp2_with fail
  refine (Lex_at _ _ w1 (by decide) ex2 (by decide) (HLd.out.keep (HB1.out.block _ (by omega)) (HB1.out.block _ (by omega))) (by omega)).mono ?_
  rintro e w2 ⟨g2, c2, rfl, hc2, hg2, hl2, hR2, hz2, hb2⟩
  have HR2 := Aside0.mk hR2
  have HZ2 := Aside0.mk hz2
  have HB2 := Aside0.mk (HB1.out.trans (hb2.mono HB1.out.size))
  have HB12 := Aside0.mk hb2
  have hs2 := hb2.size
  clear hR2 hz2 hb2
  go_wp2_with fail
  refine (Lex_at _ _ w2 (by decide) ex3 (by decide) (HLd.out.keep (HB2.out.block _ (by omega)) (HB2.out.block _ (by omega))) (by omega)).mono ?_
  rintro e w3 ⟨g3, c3, rfl, hc3, hg3, hl3, hR3, hz3, hb3⟩
  have HR3 := Aside0.mk hR3
  have HZ3 := Aside0.mk hz3
  have HB3 := Aside0.mk (HB2.out.trans (hb3.mono HB2.out.size))
  have HB23 := Aside0.mk hb3
  have hs3 := hb3.size
  clear hR3 hz3 hb3
  go_wp2_with fail
  have HW4 := Aside0.mk (show Below w3.heap.size w3 (w3.alloc (.cells #[.string ⟨#[120, 49]⟩, .string ⟨#[61]⟩, .string ⟨#[48, 120, 49, 70]⟩, .string ⟨#[59]⟩, .string ⟨#[]⟩] 9)) from (Below.refl _ w3).alloc (Nat.le_refl _) _)
  have HC4 := Aside0.mk (show Kd.C Kd.string (w3.alloc (.cells #[.string ⟨#[120, 49]⟩, .string ⟨#[61]⟩, .string ⟨#[48, 120, 49, 70]⟩, .string ⟨#[59]⟩, .string ⟨#[]⟩] 9)) (some ⟨w3.heap.size, 0, none⟩) 5 [⟨#[120, 49]⟩, ⟨#[61]⟩, ⟨#[48, 120, 49, 70]⟩, ⟨#[59]⟩, ⟨#[]⟩] from lit_C w3 [⟨#[120, 49]⟩, ⟨#[61]⟩, ⟨#[48, 120, 49, 70]⟩, ⟨#[59]⟩, ⟨#[]⟩] (by decide))
  generalize w3.alloc (.cells #[.string ⟨#[120, 49]⟩, .string ⟨#[61]⟩, .string ⟨#[48, 120, 49, 70]⟩, .string ⟨#[59]⟩, .string ⟨#[]⟩] 9) = w4 at *
  have HR14 := Aside0.mk (Kd.R_reads' (Kd.R_below HR1.out (((HB12.out.mono (by omega)).trans (HB23.out.mono (by omega))).trans (HW4.out.mono (by omega))))).2.2
  refine (ploverlaw02_texts.calls 10 (some ⟨g1, 0, none⟩) c1 _ (some ⟨w3.heap.size, 0, none⟩) 5 _ true w4 HR14.out hc1 HC4.out (by decide) (by decide +kernel)).mono ?_
  rintro e w5 ⟨rfl, hd5⟩
  have HB15 := Aside0.mk (show Below w1.heap.size w1 w5 from by
    obtain ⟨nd, rfl⟩ := hd5.out
    exact pw_below_drewN (((HB12.out.mono (by omega)).trans (HB23.out.mono (by omega))).trans (HW4.out.mono (by omega))) nd)
  have HB25 := Aside0.mk (show Below w2.heap.size w2 w5 from by
    obtain ⟨nd, rfl⟩ := hd5.out
    exact pw_below_drewN ((HB23.out.mono (by omega)).trans (HW4.out.mono (by omega))) nd)
  have HB35 := Aside0.mk (show Below w3.heap.size w3 w5 from by
    obtain ⟨nd, rfl⟩ := hd5.out
    exact pw_below_drewN HW4.out nd)
  have hs5 := HB35.out.size
  clear hd5
  have y14 : w5.cell? ⟨g1, 14, none⟩ = some (.int .i64 31) := (HB15.out.cell hl1).trans (HZ1.out 14 _ rfl)
  have y10 : w5.cell? ⟨g1, 10, none⟩ = some (.int .i64 2) := (HB15.out.cell hl1).trans (HZ1.out 10 _ rfl)
  have y16 : w5.cell? ⟨g1, 16, none⟩ = some (.int .i64 9) := (HB15.out.cell hl1).trans (HZ1.out 16 _ rfl)
  have y21 : w5.cell? ⟨g1, 21, none⟩ = some (.int .i64 17) := (HB15.out.cell hl1).trans (HZ1.out 21 _ rfl)
  have y20 : w5.cell? ⟨g1, 20, none⟩ = some (.int .i64 0) := (HB15.out.cell hl1).trans (HZ1.out 20 _ rfl)
  go_wp2_with fail
  have HC6 := Aside0.mk (lit_C w5 [⟨#[97]⟩, ⟨#[60, 60]⟩, ⟨#[61]⟩, ⟨#[50]⟩, ⟨#[]⟩] (by decide))
  have HW6 := Aside0.mk (show Below w5.heap.size w5 (w5.alloc (.cells #[.string ⟨#[97]⟩, .string ⟨#[60, 60]⟩, .string ⟨#[61]⟩, .string ⟨#[50]⟩, .string ⟨#[]⟩] 9)) from (Below.refl _ w5).alloc (Nat.le_refl _) _)
  have HR26 := Aside0.mk (Kd.R_reads' (Kd.R_below (w1 := w5.alloc (.cells #[.string ⟨#[97]⟩, .string ⟨#[60, 60]⟩, .string ⟨#[61]⟩, .string ⟨#[50]⟩, .string ⟨#[]⟩] 9)) HR2.out (HB25.out.trans (HW6.out.mono (by omega))))).2.2
  refine (ploverlaw02_texts.calls 10 (some ⟨g2, 0, none⟩) c2 _ (some ⟨w5.heap.size, 0, none⟩) 5 _ true _ HR26.out hc2 HC6.out (by decide) (by decide +kernel)).mono ?_
  rintro e w7 ⟨rfl, hd7⟩
  have HB57 := Aside0.mk (show Below w5.heap.size w5 w7 from by
    obtain ⟨nd, rfl⟩ := hd7.out
    exact pw_below_drewN HW6.out nd)
  have HB37 := Aside0.mk (HB35.out.trans (HB57.out.mono (by omega)))
  have hs7 := HB57.out.size
  clear hd7 y14 y10 y16 y21 y20
  have y0 : w7.cell? ⟨g3, 0, none⟩ = some (.int .i64 0) := (HB37.out.cell hl3).trans (HZ3.out 0 _ rfl)
  have y1 : w7.cell? ⟨g3, 1, none⟩ = some (.int .i64 0) := (HB37.out.cell hl3).trans (HZ3.out 1 _ rfl)
  have y2 : w7.cell? ⟨g3, 2, none⟩ = some (.int .i64 1) := (HB37.out.cell hl3).trans (HZ3.out 2 _ rfl)
  have y3 : w7.cell? ⟨g3, 3, none⟩ = some (.string ⟨#[]⟩) := (HB37.out.cell hl3).trans (HZ3.out 3 _ rfl)
  have y4 : w7.cell? ⟨g3, 4, none⟩ = some (.int .i64 0) := (HB37.out.cell hl3).trans (HZ3.out 4 _ rfl)
  go_wp2_with fail
  have HB7 := Aside0.mk (HB3.out.trans (HB37.out.mono (by omega)))
  clear y0 y1 y2 y3 y4
  refine (fails_any _ 7 2 w7 (by decide) (HLd.out.keep (HB7.out.block _ (by omega)) (HB7.out.block _ (by omega))) (HE.out.keep HB7.out) (by have := HB7.out.size; omega) ex4 (by decide)).mono ?_
  rintro e w8 ⟨rfl, hb8⟩
  have HB8 := Aside0.mk (HB7.out.trans (hb8.mono HB7.out.size))
  clear hb8
  go_wp2_with fail
  refine (fails_any _ 7 2 w8 (by decide) (HLd.out.keep (HB8.out.block _ (by omega)) (HB8.out.block _ (by omega))) (HE.out.keep HB8.out) (by have := HB8.out.size; omega) ex5 (by decide)).mono ?_
  rintro e w9 ⟨rfl, hb9⟩
  have HB9 := Aside0.mk (HB8.out.trans (hb9.mono HB8.out.size))
  clear hb9
  go_wp2_with fail
  refine (fails_any _ 10 0 w9 (by decide) (HLd.out.keep (HB9.out.block _ (by omega)) (HB9.out.block _ (by omega))) (HE.out.keep HB9.out) (by have := HB9.out.size; omega) ex6 (by decide)).mono ?_
  rintro e w10 ⟨rfl, hb10⟩
  have HB10 := Aside0.mk (HB9.out.trans (hb10.mono HB9.out.size))
  clear hb10
  go_wp2_with fail
  refine (fails_any _ 7 1 w10 (by decide) (HLd.out.keep (HB10.out.block _ (by omega)) (HB10.out.block _ (by omega))) (HE.out.keep HB10.out) (by have := HB10.out.size; omega) ex7 (by decide)).mono ?_
  rintro e w11 ⟨rfl, hb11⟩
  have HB11 := Aside0.mk (HB10.out.trans (hb11.mono HB10.out.size))
  clear hb11
  go_wp2
  go_ret
  exact ⟨rfl, HB11.out⟩
end Go.Proofs.YtdlfjokhgmngcaaGreatDoor.Lx
