/- The library's IndexRune at a row of ASCII signs: a rune beyond them is not in it. And the closure that tells where a number's digits end. -/
import Derived.Test.YtdlfjokhgmngcaaGreatDoorLexD
import Derived.Laws.RangeString
import Derived.Laws.RangeAny
import Derived.Shelf.Small.Utf8
namespace Go.Proofs.YtdlfjokhgmngcaaGreatDoor.Lx
open Go.RowKit Go.Shelf Go.Proofs.YtdlfjokhgmngcaaGreatDoorW.PrintWords
set_option linter.unusedVariables false
set_option linter.unusedSimpArgs false

/-- Behind a call that hands back a number, and makes memory at most. -/
def GivesInt (n : Int) (w : World) (e : Ending) (w' : World) : Prop := e = .returned (.int .i64 n) ∧ Below w.heap.size w w'

set_option maxRecDepth 100000 in
set_option maxHeartbeats 1600000 in
theorem indexRune_err (s : ByteArray) (hs : s.size ≤ 1000) (hasc : ∀ j (h : j < s.size), (s[j]'h).toNat < 128) (w : World) :
    Calls Tryz.prog 76 #[.string s, .int .i32 65533] w (GivesInt (-1) w) := by
  have HA := Aside0.mk hasc
  clear hasc
  go_enter Tryz.func76, Tryz.ntmps76
  go_wp2
  go_loopw [] (fun w' => ∃ pos, w' = w.iter s pos ∧ pos ≤ s.size) (fun w' => s.size - w'.iterPos w.heap.size)
  case atStart => exact ⟨0, rfl, Nat.zero_le _⟩
  case round =>
    obtain ⟨pos, rfl, hle⟩ := hrel
    by_cases hp : pos < s.size
    · have ha := HA.out pos hp
      have hnx : ∀ ty, (Instr.next (.pointer (some ⟨w.heap.size, 0, none⟩)) true ty).run Tryz.prog (w.iter s pos) = _ := fun ty => run_next_ascii w s pos ty hp ha
      have hne : (((s[pos]'hp).toNat : Int) == 65533) = false := beq_eq_false_iff_ne.2 (by omega)
      go_wp2
      go_roundw
      case rel => exact ⟨pos + 1, rfl, by omega⟩
      case measure => simp; omega
    · have hnx : ∀ ty, (Instr.next (.pointer (some ⟨w.heap.size, 0, none⟩)) true ty).run Tryz.prog (w.iter s pos) = _ := fun ty => run_next_end w s pos ty hp
      go_wp2
      go_ret
      exact ⟨rfl, (Below.refl _ w).alloc (Nat.le_refl _) _⟩

set_option maxRecDepth 100000 in
set_option maxHeartbeats 1600000 in
theorem indexRune_bad (s : ByteArray) (r : Int) (h1 : 128 ≤ r) (h2 : r ≤ 1114111) (hv : Lib.validRune r = false) (w : World) :
    Calls Tryz.prog 76 #[.string s, .int .i32 r] w (GivesInt (-1) w) := by
  have HV := Aside0.mk (show ∀ w, Calls Tryz.prog 88 #[.int .i32 r] w fun e w' => e = .returned (.bool false) ∧ w = w' from fun w => (Tryz.utf8_ValidRune r w).mono fun e w' ⟨h, k⟩ => ⟨by rw [h, hv], k.symm⟩)
  have D3 := Aside0.mk (show (r == (65533 : Int)) = false from beq_eq_false_iff_ne.2 (fun e => by rw [e] at hv; revert hv; decide))
  clear hv
  have d1 : decide ((0 : Int) ≤ r) = true := decide_eq_true (by omega)
  have d2 : decide (r < (128 : Int)) = false := decide_eq_false (by omega)
  have d3 : (r == (65533 : Int)) = false := D3.out
  clear D3
  go_enter Tryz.func76, Tryz.ntmps76
  go_wp2_with (go_at_call 88; refine (HV.out _).mono ?_; rintro e w' ⟨rfl, rfl⟩)
  go_ret
  exact ⟨rfl, Below.refl _ _⟩

theorem encode_high (r : Int) (h1 : 128 ≤ r) : 2 ≤ (Utf8.encode r).size ∧ (Utf8.encode r).size ≤ 4 ∧ ∃ x, (Utf8.encode r).data.toList[(Utf8.encode r).size - 1]? = some x ∧ 128 ≤ x.toNat := by
  have hc : ∃ c : Nat, 128 ≤ c ∧ (if Utf8.valid r then r.toNat else Utf8.runeError) = c := by
    refine ⟨_, ?_, rfl⟩
    split
    · omega
    · decide
  obtain ⟨c, hc1, hc⟩ := hc
  have key : ∀ n : Nat, n < 64 → 128 ≤ (UInt8.ofNat (0x80 + n)).toNat := fun n hn => by
    rw [UInt8.toNat_ofNat']; omega
  unfold Utf8.encode
  simp only [hc]
  rw [if_neg (by omega)]
  split
  · exact ⟨(show 2 ≤ 2 by decide), (show 2 ≤ 4 by decide), _, rfl, key _ (Nat.mod_lt _ (by decide))⟩
  · split
    · exact ⟨(show 2 ≤ 3 by decide), (show 3 ≤ 4 by decide), _, rfl, key _ (Nat.mod_lt _ (by decide))⟩
    · exact ⟨(show 2 ≤ 4 by decide), (show 4 ≤ 4 by decide), _, rfl, key _ (Nat.mod_lt _ (by decide))⟩

theorem indexByte_high : ∀ (l : List UInt8) (c : UInt8), (∀ x ∈ l, x.toNat < 128) → 128 ≤ c.toNat → Lib.indexByte l c = -1
  | [], _, _, _ => rfl
  | b :: l, c, h, hc => by
    have hb : (b == c) = false := beq_eq_false_iff_ne.2 (fun e => by have := h b (by simp); rw [e] at this; omega)
    unfold Lib.indexByte
    rw [hb, indexByte_high l c (fun x hx => h x (by simp [hx])) hc]
    rfl

set_option maxRecDepth 100000 in
set_option maxHeartbeats 3200000 in
theorem indexRune_high (s : ByteArray) (hs : s.size ≤ 1000) (hs4 : 4 ≤ s.size) (hasc : ∀ j (h : j < s.size), (s[j]'h).toNat < 128) (r : Int) (h1 : 128 ≤ r) (h2 : r ≤ 1114111) (hne : r ≠ 65533) (hv : Lib.validRune r = true) (w : World) :
    Calls Tryz.prog 76 #[.string s, .int .i32 r] w (GivesInt (-1) w) := by
  have HV := Aside0.mk (show ∀ w, Calls Tryz.prog 88 #[.int .i32 r] w fun e w' => e = .returned (.bool true) ∧ w = w' from fun w => (Tryz.utf8_ValidRune r w).mono fun e w' ⟨h, k⟩ => ⟨by rw [h, hv], k.symm⟩)
  have d3 : (r == (65533 : Int)) = false := beq_eq_false_iff_ne.2 hne
  obtain ⟨e1, e2, e3⟩ := encode_high r h1
  obtain ⟨q, hq⟩ : ∃ q, Utf8.encode r = q := ⟨_, rfl⟩
  rw [hq] at e1 e2 e3
  obtain ⟨k, hk⟩ : ∃ k, q.size = k + 1 := ⟨q.size - 1, by omega⟩
  have hklt : k < s.size := by omega
  have hkq : k < q.size := by omega
  have e5 : 128 ≤ (q[k]'hkq).toNat := by
    obtain ⟨x, hx, hx2⟩ := e3
    rw [show q.size - 1 = k from by omega, List.getElem?_eq_getElem (by simp; omega)] at hx
    have : q[k]'hkq = x := Option.some.inj hx
    rw [this]; exact hx2
  have hsk := hasc k hklt
  have hnb : ∀ h h', (((s[k]'h).toNat : Int) != ((q[k]'h').toNat : Int)) = true := fun _ _ => by rw [bne_iff_ne]; omega
  have HI := Aside0.mk (show ∀ w, Calls Tryz.prog 12 #[.string (s.extract (k + 1) s.size), .int .u8 (q[k]'hkq).toNat] w fun e w' => e = .returned (.int .i64 (-1)) ∧ w = w' from fun w =>
    (Tryz.strings_IndexByte _ _ w).mono fun e w' ⟨h, g⟩ => ⟨by
      rw [h, indexByte_high]
      · intro x hx
        rw [extract_list] at hx
        obtain ⟨j, hj, rfl⟩ := List.getElem_of_mem (List.mem_of_mem_drop hx)
        exact hasc j (by simpa using hj)
      · simpa using e5, g.symm⟩)
  have d1 : decide ((0 : Int) ≤ r) = true := decide_eq_true (by omega)
  have d2 : decide (r < (128 : Int)) = false := decide_eq_false (by omega)
  have HK := Aside0.mk hk
  have hk3 : k ≤ 3 := by omega
  clear hv hasc e3 e5 hsk hk hne
  go_enter Tryz.func76, Tryz.ntmps76
  go_wp2_with (go_at_call 88; refine (HV.out _).mono ?_; rintro e w' ⟨rfl, rfl⟩)
  go_step3
  go_wp2_with (go_at_call 12; refine (HI.out _).mono ?_; rintro e w' ⟨rfl, rfl⟩)
  rw [show ((q.size : Int) - 1) = (k : Int) from by have := HK.out; omega]
  go_loopw [9] (fun i wr => i = .int .i64 k ∧ Aside0 (wr = w)) (fun _ _ => 0)
  case atStart => exact ⟨rfl, ⟨rfl⟩⟩
  case round =>
    obtain ⟨rfl, ⟨hw⟩⟩ := hrel
    subst hw
    go_wp2
    go_step3
    go_wp2
    go_quiet (fail)
    go_wp2
    have HW := Aside0.mk (pw_below_drewN (Below.refl wr.heap.size wr) nq)
    generalize wr.drewN nq = W1 at *
    have w1 : IntKind.i64.wrap ((k : Int) + 1) = (k : Int) + 1 := IntWalk.i64_in _ (by omega)
    have w2 : (0 : Int) ≤ (k : Int) + 1 := by omega
    have w3 : ((k : Int) + 1).toNat = k + 1 := by omega
    have w4 : (k : Int) + 1 ≤ (s.size : Int) := by omega
    go_quiet ((go_at_call 12; exact Calls.quiet_of_same ((HI.out _).mono fun _ _ h => ⟨h.1, h.2.symm⟩)))
    go_wp2
    rw [Exit.noGoto_ret]
    go_wp2
    (try rw [Exit.noGoto_ret])
    go_ret
    exact ⟨rfl, pw_below_drewN HW.out _⟩

end Go.Proofs.YtdlfjokhgmngcaaGreatDoor.Lx
