/- Line, and fails. -/
import Derived.Test.YtdlfjokhgmngcaaGreatDoorLexZa
namespace Go.Proofs.YtdlfjokhgmngcaaGreatDoor.Lx
open Go.RowKit Go.Shelf Go.Proofs.YtdlfjokhgmngcaaGreatDoorW.PrintWords Go.Proofs.YtdlfjokhgmngcaaGreatDoorW.PrintLast Go.Proofs.YtdlfjokhgmngcaaGreatDoorW.PrintMore Go.Proofs.YtdlfjokhgmngcaaGreatDoor.PLexTells
attribute [local go_sem] max2_int min2_int max_two min_two
set_option linter.unusedVariables false
set_option linter.unusedSimpArgs false

set_option maxRecDepth 100000 in
set_option maxHeartbeats 3200000 in
theorem fails_any (s : ByteArray) (c p : Int) (w : World) (hs2 : s.size < 2 ^ 62) (hL : Laid w) (hE : LaidE w) (hlow : 8 < w.heap.size) (hF : lexF s = some (c, p)) (hc : c ≠ 0) :
    Calls Tryz.prog 23 #[.string s, .int .i64 c, .int .i64 p] w fun e w' => e = .returned (.bool true) ∧ Below w.heap.size w w' := by
  have HX := Aside0.mk (Lex_any s w hs2 hL hlow)
  have HE := Aside0.mk hE
  have HF := Aside0.mk hF
  have hT : lexT s = [] := by
    unfold lexF at hF
    unfold lexT
    split
    · rfl
    · rename_i h
      rw [if_neg h] at hF
      rw [hF]
  clear hL hE hF
  go_enter Tryz.func23, Tryz.ntmps23
  go_wp2_with fail
  refine HX.out.mono ?_
  rintro e w1 ⟨hb, v, u, rfl, hR, hU⟩
  rw [hT] at hR
  rw [HF.out] at hU
  obtain ⟨A, cp, rfl⟩ := Kd.R_slice hR
  obtain ⟨g, rfl, hg⟩ := hU
  have HB := Aside0.mk hb
  have HG := Aside0.mk hg
  have HT := Aside0.mk (told_hit g c p w1 (HE.out.keep hb) hg hc)
  clear hR hb hg
  go_wp2_with fail
  refine HT.out.mono ?_
  rintro e w2 ⟨rfl, hb2⟩
  have HB2 := Aside0.mk hb2
  clear hb2
  go_wp2
  go_ret
  exact ⟨rfl, HB.out.trans (HB2.out.mono HB.out.size)⟩

/-- The line of a place. -/
def lineL (s : List UInt8) (a : Int) : Int := 1 + (nls (s.take a.toNat) : Nat)

set_option maxRecDepth 100000 in
set_option maxHeartbeats 3200000 in
theorem Line_any (s : ByteArray) (a : Int) (w : World) (hs2 : s.size < 2 ^ 62) :
    Calls Tryz.prog 17 #[.string s, .int .i64 a] w fun e w' => e = .returned (.int .i64 (lineL s.data.toList a)) ∧ Below w.heap.size w w' := by
  have bd : ∀ q : ByteArray, q.size ≤ s.size → IntKind.i64.wrap (1 + ((nls q.data.toList : Nat) : Int)) = 1 + ((nls q.data.toList : Nat) : Int) := by
    intro q hq
    have : nls q.data.toList ≤ q.size := List.count_le_length
    exact IntWalk.i64_in _ (by omega)
  have w1 := bd (s.extract 0 a.toNat) (by rw [ByteArray.size_extract]; omega)
  have e0 : (s.extract 0 a.toNat).data.toList = s.data.toList.take a.toNat := by
    have := extract_take s 0 a.toNat
    rw [Nat.zero_add, List.drop_zero] at this
    exact this
  rw [e0] at w1
  have w2 : nls ([] : List UInt8) = 0 := rfl
  have w3 := bd s (Nat.le_refl _)
  clear bd
  have E1 := Aside0.mk (show lineL s.data.toList a = 1 + ((nls (s.data.toList.take a.toNat) : Nat) : Int) from rfl)
  clear e0
  have E2 := Aside0.mk (show a ≤ 0 → lineL s.data.toList a = 1 from fun h => by
    rw [lineL, show a.toNat = 0 by omega]; rfl)
  have E3 := Aside0.mk (show (s.size : Int) ≤ a → lineL s.data.toList a = 1 + ((nls s.data.toList : Nat) : Int) from fun h => by
    rw [lineL, List.take_of_length_le]
    simp only [Array.length_toList]
    have : s.data.size = s.size := rfl
    omega)
  have E4 := Aside0.mk (show s.size = 0 → lineL s.data.toList a = 1 from fun h => by
    have h2 : s.data.toList = [] := List.length_eq_zero_iff.1 (by simpa using h)
    rw [lineL, h2, List.take_nil]; rfl)
  go_enter Tryz.func17, Tryz.ntmps17
  go_wp2_with fail
  all_goals
    refine (count_nl _ _).mono ?_
    rintro e w' ⟨rfl, rfl⟩
    go_wp2
    go_ret
    refine ⟨?_, Below.refl _ _⟩
    first | (rw [E3.out (by omega)]; rfl) | (rw [E2.out (by omega)]; rfl) | (rw [E4.out (by omega)]; rfl) | (rw [E1.out]; rfl)
end Go.Proofs.YtdlfjokhgmngcaaGreatDoor.Lx
