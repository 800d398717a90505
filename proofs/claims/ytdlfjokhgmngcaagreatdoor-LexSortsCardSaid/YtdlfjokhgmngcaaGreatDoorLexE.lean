/- The lexer's methods name and mark. -/
import Derived.Test.YtdlfjokhgmngcaaGreatDoorLexD
import Derived.Laws.Rows
namespace Go.Proofs.YtdlfjokhgmngcaaGreatDoor.Lx
open Go.RowKit Go.Shelf Go.Proofs.YtdlfjokhgmngcaaGreatDoorW.PrintWords
set_option linter.unusedVariables false
set_option linter.unusedSimpArgs false

/-- w' is w but for two blocks, and new ones. -/
structure Fr2 (b g : Nat) (w w' : World) : Prop where
  os : w'.os = w.os
  tape : w'.tape = w.tape
  output : w'.output = w.output
  size : w.heap.size ≤ w'.heap.size
  block : ∀ k, k < w.heap.size → k ≠ b → k ≠ g → w'.heap[k]? = w.heap[k]?
theorem Fr2.refl (b g : Nat) (w : World) : Fr2 b g w w := ⟨rfl, rfl, rfl, Nat.le_refl _, fun _ _ _ _ => rfl⟩
theorem Fr2.trans {b g : Nat} {w w1 w2 : World} (h : Fr2 b g w w1) (k : Fr2 b g w1 w2) : Fr2 b g w w2 :=
  ⟨k.os.trans h.os, k.tape.trans h.tape, k.output.trans h.output, Nat.le_trans h.size k.size, fun i hi h1 h2 => (k.block i (Nat.lt_of_lt_of_le hi h.size) h1 h2).trans (h.block i hi h1 h2)⟩
theorem Fr.two {b : Nat} {w w1 : World} (h : Fr b w w1) (g : Nat) : Fr2 b g w w1 :=
  ⟨h.out.os, h.out.tape, h.out.output, h.out.size, fun k hk h1 _ => h.out.block k hk (fun e => h1 (Option.some.inj e))⟩
theorem Fr.two' {g : Nat} {w w1 : World} (h : Fr g w w1) (b : Nat) : Fr2 b g w w1 :=
  ⟨h.out.os, h.out.tape, h.out.output, h.out.size, fun k hk _ h2 => h.out.block k hk (fun e => h2 (Option.some.inj e))⟩
theorem Fr2.drewN {b g : Nat} {w w1 : World} (h : Fr2 b g w w1) (n : Nat) : Fr2 b g w (w1.drewN n) := ⟨h.os, h.tape, h.output, h.size, h.block⟩

/-- A token's block. -/
def TokB (w : World) (g : Nat) (k a l : Int) (t : ByteArray) (n : Int) : Prop := w.heap[g]? = some (.cells #[.int .i64 k, .int .i64 a, .int .i64 l, .string t, .int .i64 n] 31 (0, 0))

set_option maxRecDepth 100000 in
set_option maxHeartbeats 1600000 in
theorem name_long (b g : Nat) (s : ByteArray) (p l : Nat) (err : Value) (k0 a0 l0 n0 : Int) (t0 : ByteArray) (w : World) (hb : LX w b true s p l err) (hg : TokB w g k0 a0 l0 t0 n0) (hn : p ≤ s.size) (hs : s.size ≤ 20000)
    (hlen : 16 < whileN 6 (s.data.toList.drop p)) :
    Calls Tryz.prog 39 #[.pointer (some ⟨b, 0, none⟩), .pointer (some ⟨g, 0, none⟩)] w (Failed b true s p l 4 p w) := by
  have hbl := blk_lt hb
  have HB := Aside0.mk hb
  obtain ⟨n, hnn⟩ : ∃ n, whileN 6 (s.data.toList.drop p) = n := ⟨_, rfl⟩
  rw [hnn] at hlen
  have HW := Aside0.mk (show Calls Tryz.prog 60 #[.pointer (some ⟨b, 0, none⟩), .int .u8 6] w fun e w' => e = .returned (.int .i64 n) ∧ LX w' b true s p l err ∧ Fr b w w' from
    (while_any b s p l err 6 w hb hn hs).mono fun e w' ⟨h1, h2, h3⟩ => ⟨by rw [h1, extract_list, hnn], h2, h3⟩)
  have hd : decide (16 < n) = true := decide_eq_true hlen
  have hd2 : decide ((16 : Int) < (n : Int)) = true := decide_eq_true (by omega)
  clear hb hnn
  go_enter Tryz.func39, Tryz.ntmps39
  go_wp2_with fail
  refine HW.out.mono ?_
  rintro e w1 ⟨rfl, h1, f1⟩
  have HB1 := Aside0.mk h1
  have HF1 := Aside0.mk f1
  have hc1 : w1.cell? ⟨b, 260, none⟩ = some (.int .i64 p) := lx_at h1 1
  clear h1 f1
  go_wp2_with fail
  refine (fail_any b true s p l err 4 p _ HB1.out).mono ?_
  rintro e w2 ⟨rfl, f2, v, h2, h3, g2, hg2, h4⟩
  have HZ := Aside0.mk (show Fr b w w2 ∧ ∃ v, FaultAt w2 v 4 p ∧ LX w2 b true s p l v ∧ ∃ g, w.heap.size ≤ g ∧ v = .iface 56 (.pointer (some ⟨g, 0, none⟩)) from ⟨HF1.out.trans f2, v, h2, h3, g2, Nat.le_trans HF1.out.size hg2, h4⟩)
  clear f2 h2 h3 hg2 h4
  go_wp2
  go_end0
  exact ⟨rfl, HZ.out⟩

/-- Behind a token that is read: n bytes. -/
def Read (b g : Nat) (s : ByteArray) (p l n : Nat) (err : Value) (k a0 l0 n0 : Int) (w : World) (e : Ending) (w' : World) : Prop :=
  e = .returned (.tuple #[]) ∧ Fr2 b g w w' ∧ LX w' b true s (p + n) (l + nls (s.extract p (p + n)).data.toList) err ∧ TokB w' g k a0 l0 (s.extract p (p + n)) n0

theorem tok_cells {w : World} {g : Nat} {k a l : Int} {t : ByteArray} {n : Int} (h : TokB w g k a l t n) :
    w.cell? ⟨g, 0, none⟩ = some (.int .i64 k) ∧ w.cell? ⟨g, 3, none⟩ = some (.string t) ∧ w.cell? ⟨g, 4, none⟩ = some (.int .i64 n) ∧ w.frozen? ⟨g, 0, none⟩ = false ∧ w.frozen? ⟨g, 3, none⟩ = false ∧ w.frozen? ⟨g, 4, none⟩ = false :=
  ⟨blk_cell h 0, blk_cell h 3, blk_cell h 4, blk_frozen h 0, blk_frozen h 3, blk_frozen h 4⟩

set_option maxRecDepth 100000 in
set_option maxHeartbeats 1600000 in
theorem name_ok (b g : Nat) (s : ByteArray) (p l n : Nat) (err : Value) (k0 a0 l0 n0 : Int) (t0 : ByteArray) (w : World) (hb : LX w b true s p l err) (hg : TokB w g k0 a0 l0 t0 n0) (hgb : g ≠ b) (hn : p ≤ s.size) (hs : s.size ≤ 20000) (hl : l ≤ p + 1)
    (hnn : whileN 6 (s.data.toList.drop p) = n) (hlen : n ≤ 16) :
    Calls Tryz.prog 39 #[.pointer (some ⟨b, 0, none⟩), .pointer (some ⟨g, 0, none⟩)] w (Read b g s p l n err 1 a0 l0 n0 w) := by
  have hbl := blk_lt hb
  have HB := Aside0.mk hb
  have HG := Aside0.mk hg
  have hpn : p + n ≤ s.size := by
    have : n ≤ (s.data.toList.drop p).length := by rw [← hnn]; exact List.Sublist.length_le (List.takeWhile_sublist _)
    simp at this
    omega
  have HW := Aside0.mk (show Calls Tryz.prog 60 #[.pointer (some ⟨b, 0, none⟩), .int .u8 6] w fun e w' => e = .returned (.int .i64 n) ∧ LX w' b true s p l err ∧ Fr b w w' from
    (while_any b s p l err 6 w hb hn hs).mono fun e w' ⟨h1, h2, h3⟩ => ⟨by rw [h1, extract_list, hnn], h2, h3⟩)
  have hd2 : decide ((16 : Int) < (n : Int)) = false := decide_eq_false (by omega)
  clear hb hnn hg
  go_enter Tryz.func39, Tryz.ntmps39
  go_wp2_with fail
  refine HW.out.mono ?_
  rintro e w1 ⟨rfl, h1, f1⟩
  have HB1 := Aside0.mk h1
  have HF1 := Aside0.mk f1
  have HG1 := Aside0.mk (show TokB w1 g k0 a0 l0 t0 n0 from f1.blk HG.out hgb)
  clear h1 f1
  go_wp2_with (go_at_call 55; refine (take_any b true s p l n err _ HB1.out hpn hs (by omega)).mono ?_; rintro e w2 ⟨rfl, h2, f2⟩; have HB2 := Aside0.mk h2; have HF2 := Aside0.mk (HF1.out.trans f2); have HG2 := Aside0.mk (show TokB w2 g k0 a0 l0 t0 n0 from f2.blk HG1.out hgb); obtain ⟨c1, c2, c3, z1, z2, z3⟩ := tok_cells HG2.out; clear h2 f2)
  go_end0
  refine ⟨rfl, ((HF2.out.two g).trans (((Fr.refl g _).set 0 _).set 3 _ |>.two' b)), ?_, blk_set (blk_set HG2.out 0 _) 3 _⟩
  exact blk_far (blk_far HB2.out (Ne.symm hgb) _) (Ne.symm hgb) _

/-- The marks of two signs. -/
def twosL : List (List UInt8) := [[60, 60], [62, 62], [60, 61], [62, 61], [61, 61], [33, 61]]
def markN (l : List UInt8) : Nat := if twosL.any (fun m => m.isPrefixOf l) then 2 else 1
theorem fields_twos : Lib.fields [60, 60, 32, 62, 62, 32, 60, 61, 32, 62, 61, 32, 61, 61, 32, 33, 61] = twosL := by decide +kernel
theorem fields_any (w : World) (htab : Lib.TabIs Tryz.prog w "strings.asciiSpace" .u8 Lib.asciiSpaceTab) :
    Calls Tryz.prog 65 #[.string ⟨#[60, 60, 32, 62, 62, 32, 60, 61, 32, 62, 61, 32, 61, 61, 32, 33, 61]⟩] w fun e w' =>
      e = .returned (.slice (some ⟨w.heap.size, 0, none⟩) 6 6) ∧ w' = w.alloc (.cells #[.string ⟨#[60, 60]⟩, .string ⟨#[62, 62]⟩, .string ⟨#[60, 61]⟩, .string ⟨#[62, 61]⟩, .string ⟨#[61, 61]⟩, .string ⟨#[33, 61]⟩] 9) := by
  have h := Tryz.strings_Fields ⟨#[60, 60, 32, 62, 62, 32, 60, 61, 32, 62, 61, 32, 61, 61, 32, 33, 61]⟩ w (by decide) (by
    intro j b hb
    have hm := List.mem_of_getElem? hb
    clear hb
    revert hm b
    decide) htab
  simp only [fields_twos] at h
  exact h

set_option maxRecDepth 100000 in
set_option maxHeartbeats 3200000 in
theorem mark_ok (b g : Nat) (s : ByteArray) (p l n : Nat) (err : Value) (k0 a0 l0 n0 : Int) (t0 : ByteArray) (w : World) (hb : LX w b true s p l err) (hg : TokB w g k0 a0 l0 t0 n0) (hgb : g ≠ b) (hn : p < s.size) (hs : s.size ≤ 20000) (hl : l ≤ p + 1)
    (htab : Lib.TabIs Tryz.prog w "strings.asciiSpace" .u8 Lib.asciiSpaceTab) (hnn : markN (s.data.toList.drop p) = n) :
    Calls Tryz.prog 41 #[.pointer (some ⟨b, 0, none⟩), .pointer (some ⟨g, 0, none⟩)] w (Read b g s p l n err 3 a0 l0 n0 w) := by
  have hbl := blk_lt hb
  have hgl := blk_lt hg
  have HB := Aside0.mk hb
  have HG := Aside0.mk hg
  have HT := Aside0.mk htab
  have HNN := Aside0.mk hnn
  have hc0 : w.cell? ⟨b, 259, none⟩ = some (.string s) := lx_at hb 0
  have hc1 : w.cell? ⟨b, 260, none⟩ = some (.int .i64 p) := lx_at hb 1
  clear hb hg htab hnn
  go_enter Tryz.func41, Tryz.ntmps41
  go_wp2
  go_step3
  go_wp2
  go_quiet (fail)
  go_wp2
  go_step3
  go_wp2_with fail
  refine (fields_any _ (by exact HT.out)).mono ?_
  rintro e W ⟨rfl, hW⟩
  have hrow : W.heap[w.heap.size]? = some (.cells #[.string ⟨#[60, 60]⟩, .string ⟨#[62, 62]⟩, .string ⟨#[60, 61]⟩, .string ⟨#[62, 61]⟩, .string ⟨#[61, 61]⟩, .string ⟨#[33, 61]⟩] 9 (0, 0)) := by
    rw [hW]; exact blk_new (w.drewN nq) _
  have HB1 := Aside0.mk (show LX W b true s p l err by rw [hW]; exact lx_alloc (lx_drewN HB.out nq) _)
  have HG1 := Aside0.mk (show TokB W g k0 a0 l0 t0 n0 by rw [hW]; exact blk_alloc (blk_drewN HG.out nq) _)
  have HF1 := Aside0.mk (show Fr b w W by rw [hW]; exact ((Fr.refl b w).drewN nq).alloc _)
  have r0 : W.cell? ⟨w.heap.size, 0, none⟩ = some (.string ⟨#[60, 60]⟩) := blk_cell hrow 0
  have r1 : W.cell? ⟨w.heap.size, 1, none⟩ = some (.string ⟨#[62, 62]⟩) := blk_cell hrow 1
  have r2 : W.cell? ⟨w.heap.size, 2, none⟩ = some (.string ⟨#[60, 61]⟩) := blk_cell hrow 2
  have r3 : W.cell? ⟨w.heap.size, 3, none⟩ = some (.string ⟨#[62, 61]⟩) := blk_cell hrow 3
  have r4 : W.cell? ⟨w.heap.size, 4, none⟩ = some (.string ⟨#[61, 61]⟩) := blk_cell hrow 4
  have r5 : W.cell? ⟨w.heap.size, 5, none⟩ = some (.string ⟨#[33, 61]⟩) := blk_cell hrow 5
  clear hW hrow hc0 hc1
  have hql := extract_list s p
  obtain ⟨q, hq⟩ : ∃ q, s.extract p s.size = q := ⟨_, rfl⟩
  rw [hq] at hql
  rw [hq]
  have HQL := Aside0.mk hql
  clear hql hq
  have hrow : ∀ k, k < 6 → ∃ m : ByteArray, W.cell? ⟨w.heap.size, k, none⟩ = some (.string m) ∧ m.size = 2 ∧ twosL[k]? = some m.data.toList := by
    intro k hk
    match k, hk with
    | 0, _ => exact ⟨_, r0, rfl, rfl⟩
    | 1, _ => exact ⟨_, r1, rfl, rfl⟩
    | 2, _ => exact ⟨_, r2, rfl, rfl⟩
    | 3, _ => exact ⟨_, r3, rfl, rfl⟩
    | 4, _ => exact ⟨_, r4, rfl, rfl⟩
    | 5, _ => exact ⟨_, r5, rfl, rfl⟩
    | n + 6, h => omega
  have HRow := Aside0.mk hrow
  clear hrow r0 r1 r2 r3 r4 r5
  have HPN := Aside0.mk (show p + n ≤ s.size by
    have := HNN.out
    unfold markN at this
    split at this
    · rename_i h
      have h2 : 2 ≤ (s.data.toList.drop p).length := by
        obtain ⟨m, hm, hp⟩ := List.any_eq_true.1 h
        have h3 := (List.isPrefixOf_iff_prefix.1 hp).length_le
        have h4 : m.length = 2 := by
          revert hm; clear hp h3 h this; revert m; decide
        omega
      simp at h2
      omega
    · omega)
  go_wp2
  go_loopw [4, 19] (fun v i wr => ∃ k : Nat, k ≤ 6 ∧ v = .int .i64 1 ∧ i = .int .i64 k ∧ Aside0 (∀ m ∈ twosL.take k, m.isPrefixOf q.data.toList = false) ∧ Aside0 (wr = W)) (fun _ i _ => 6 - (intOf i).toNat)
  case atStart => exact ⟨0, by omega, rfl, rfl, ⟨fun m h => absurd h (by simp)⟩, ⟨rfl⟩⟩
  case round =>
    obtain ⟨k, hk, rfl, rfl, HA, ⟨hWw⟩⟩ := hrel
    subst hWw
    by_cases hlt : k < 6
    · obtain ⟨m, hm1, hm2, hm3⟩ := HRow.out k hlt
      have HM3 := Aside0.mk hm3
      clear hm3
      cases hp : m.data.toList.isPrefixOf q.data.toList with
      | true =>
        have HP := Aside0.mk hp
        clear hp
        obtain rfl : n = 2 := by
          rw [← HNN.out, ← HQL.out, markN, if_pos]
          exact List.any_eq_true.2 ⟨_, List.mem_of_getElem? HM3.out, HP.out⟩
        go_wp2_with (first | (go_at_call 34; refine (hasPrefix_any q m true _ HP.out).mono ?_; rintro e w' ⟨rfl, rfl⟩) | (go_at_call 55; refine (take_any b true s p l 2 err _ HB1.out HPN.out hs (by omega)).mono ?_; rintro e w2 ⟨rfl, h2, f2⟩; have HB2 := Aside0.mk h2; have HF2 := Aside0.mk (HF1.out.trans f2); have HG2 := Aside0.mk (show TokB w2 g k0 a0 l0 t0 n0 from f2.blk HG1.out hgb); obtain ⟨c1, c2, c3, z1, z2, z3⟩ := tok_cells HG2.out; clear h2 f2))
        go_end0
        refine ⟨rfl, ((HF2.out.two g).trans (((Fr.refl g _).set 0 _).set 3 _ |>.two' b)), ?_, blk_set (blk_set HG2.out 0 _) 3 _⟩
        exact blk_far (blk_far HB2.out (Ne.symm hgb) _) (Ne.symm hgb) _
      | false =>
        have HP := Aside0.mk hp
        clear hp
        go_wp2_with (go_at_call 34; refine (hasPrefix_any q m false _ HP.out).mono ?_; rintro e w' ⟨rfl, rfl⟩)
        go_roundw
        case rel =>
          refine ⟨k + 1, by omega, rfl, by go_num, ⟨?_⟩, by first | exact ⟨rfl⟩ | exact ⟨trivial⟩⟩
          intro m' hm'
          rw [List.take_add_one, List.mem_append] at hm'
          rcases hm' with h | h
          · exact HA.out m' h
          · rw [HM3.out] at h
            obtain rfl : m' = m.data.toList := by simpa using h
            exact HP.out
        case measure => simp [intOf]; omega
    · obtain rfl : k = 6 := by omega
      obtain rfl : n = 1 := by
        rw [← HNN.out, ← HQL.out, markN, if_neg]
        intro h
        obtain ⟨m, hm, hp⟩ := List.any_eq_true.1 h
        have := HA.out m (by simpa [twosL] using hm)
        rw [this] at hp
        cases hp
      go_wp2_with (go_at_call 55; refine (take_any b true s p l 1 err _ HB1.out HPN.out hs (by omega)).mono ?_; rintro e w2 ⟨rfl, h2, f2⟩; have HB2 := Aside0.mk h2; have HF2 := Aside0.mk (HF1.out.trans f2); have HG2 := Aside0.mk (show TokB w2 g k0 a0 l0 t0 n0 from f2.blk HG1.out hgb); obtain ⟨c1, c2, c3, z1, z2, z3⟩ := tok_cells HG2.out; clear h2 f2)
      go_end0
      refine ⟨rfl, ((HF2.out.two g).trans (((Fr.refl g _).set 0 _).set 3 _ |>.two' b)), ?_, blk_set (blk_set HG2.out 0 _) 3 _⟩
      exact blk_far (blk_far HB2.out (Ne.symm hgb) _) (Ne.symm hgb) _

end Go.Proofs.YtdlfjokhgmngcaaGreatDoor.Lx
