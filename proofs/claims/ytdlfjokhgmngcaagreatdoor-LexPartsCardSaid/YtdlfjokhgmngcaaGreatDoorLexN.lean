/- The library's IndexRune at a row of ASCII signs: a rune beyond them is not in it. And the closure that tells where a number's digits end.
   The closure that tells where a number's digits end, and where IndexFunc finds that.
   strconv.ParseUint at the bases 10 and 16, at digits alone: the number, if 64 bits hold it; else an error. -/
import Derived.Laws.RangeString
import Derived.Laws.RangeAny
import Derived.Shelf.Small.Utf8
import Derived.IntWalk
import Derived.Test.YtdlfjokhgmngcaaGreatDoorLexA
namespace Go.Proofs.YtdlfjokhgmngcaaGreatDoor.Lx
open Go.RowKit Go.Shelf Go.Proofs.YtdlfjokhgmngcaaGreatDoorW.PrintWords
set_option linter.unusedVariables false
set_option linter.unusedSimpArgs false

/-- Behind a call that hands back a number, and makes memory at most. -/
def GivesInt (n : Int) (w : World) (e : Ending) (w' : World) : Prop := e = .returned (.int .i64 n) ∧ Below w.heap.size w w'

set_option maxRecDepth 100000 in
set_option maxHeartbeats 1600000 in
theorem indexRune_err (s : ByteArray) (hs : s.size ≤ 1000) (hasc : ∀ j (h : j < s.size), (s[j]'h).toNat < 128) (w : World) :
    Calls Tryz.prog 76 #[.string s, .int .i32 65533] w (GivesInt (-1) w) := by
  have HA := Aside0.mk hasc
  clear hasc
  go_enter Tryz.func76, Tryz.ntmps76
  go_wp2
  go_loopw [] (fun w' => ∃ pos, w' = w.iter s pos ∧ pos ≤ s.size) (fun w' => s.size - w'.iterPos w.heap.size)
  case atStart => exact ⟨0, rfl, Nat.zero_le _⟩
  case round =>
    obtain ⟨pos, rfl, hle⟩ := hrel
    by_cases hp : pos < s.size
    · have ha := HA.out pos hp
      have hnx : ∀ ty, (Instr.next (.pointer (some ⟨w.heap.size, 0, none⟩)) true ty).run Tryz.prog (w.iter s pos) = _ := fun ty => run_next_ascii w s pos ty hp ha
      have hne : (((s[pos]'hp).toNat : Int) == 65533) = false := beq_eq_false_iff_ne.2 (by omega)
      go_wp2
      go_roundw
      case rel => exact ⟨pos + 1, rfl, by omega⟩
      case measure => simp; omega
    · have hnx : ∀ ty, (Instr.next (.pointer (some ⟨w.heap.size, 0, none⟩)) true ty).run Tryz.prog (w.iter s pos) = _ := fun ty => run_next_end w s pos ty hp
      go_wp2
      go_ret
      exact ⟨rfl, (Below.refl _ w).alloc (Nat.le_refl _) _⟩

set_option maxRecDepth 100000 in
set_option maxHeartbeats 1600000 in
theorem indexRune_bad (s : ByteArray) (r : Int) (h1 : 128 ≤ r) (h2 : r ≤ 1114111) (hv : Lib.validRune r = false) (w : World) :
    Calls Tryz.prog 76 #[.string s, .int .i32 r] w (GivesInt (-1) w) := by
  have HV := Aside0.mk (show ∀ w, Calls Tryz.prog 88 #[.int .i32 r] w fun e w' => e = .returned (.bool false) ∧ w = w' from fun w => (Tryz.utf8_ValidRune r w).mono fun e w' ⟨h, k⟩ => ⟨by rw [h, hv], k.symm⟩)
  have D3 := Aside0.mk (show (r == (65533 : Int)) = false from beq_eq_false_iff_ne.2 (fun e => by rw [e] at hv; revert hv; decide))
  clear hv
  have d1 : decide ((0 : Int) ≤ r) = true := decide_eq_true (by omega)
  have d2 : decide (r < (128 : Int)) = false := decide_eq_false (by omega)
  have d3 : (r == (65533 : Int)) = false := D3.out
  clear D3
  go_enter Tryz.func76, Tryz.ntmps76
  go_wp2_with (go_at_call 88; refine (HV.out _).mono ?_; rintro e w' ⟨rfl, rfl⟩)
  go_ret
  exact ⟨rfl, Below.refl _ _⟩

theorem encode_high (r : Int) (h1 : 128 ≤ r) : 2 ≤ (Utf8.encode r).size ∧ (Utf8.encode r).size ≤ 4 ∧ ∃ x, (Utf8.encode r).data.toList[(Utf8.encode r).size - 1]? = some x ∧ 128 ≤ x.toNat := by
  have hc : ∃ c : Nat, 128 ≤ c ∧ (if Utf8.valid r then r.toNat else Utf8.runeError) = c := by
    refine ⟨_, ?_, rfl⟩
    split
    · omega
    · decide
  obtain ⟨c, hc1, hc⟩ := hc
  have key : ∀ n : Nat, n < 64 → 128 ≤ (UInt8.ofNat (0x80 + n)).toNat := fun n hn => by
    rw [UInt8.toNat_ofNat']; omega
  unfold Utf8.encode
  simp only [hc]
  rw [if_neg (by omega)]
  split
  · exact ⟨(show 2 ≤ 2 by decide), (show 2 ≤ 4 by decide), _, rfl, key _ (Nat.mod_lt _ (by decide))⟩
  · split
    · exact ⟨(show 2 ≤ 3 by decide), (show 3 ≤ 4 by decide), _, rfl, key _ (Nat.mod_lt _ (by decide))⟩
    · exact ⟨(show 2 ≤ 4 by decide), (show 4 ≤ 4 by decide), _, rfl, key _ (Nat.mod_lt _ (by decide))⟩

theorem indexByte_high : ∀ (l : List UInt8) (c : UInt8), (∀ x ∈ l, x.toNat < 128) → 128 ≤ c.toNat → Lib.indexByte l c = -1
  | [], _, _, _ => rfl
  | b :: l, c, h, hc => by
    have hb : (b == c) = false := beq_eq_false_iff_ne.2 (fun e => by have := h b (by simp); rw [e] at this; omega)
    unfold Lib.indexByte
    rw [hb, indexByte_high l c (fun x hx => h x (by simp [hx])) hc]
    rfl

set_option maxRecDepth 100000 in
set_option maxHeartbeats 3200000 in
theorem indexRune_high (s : ByteArray) (hs : s.size ≤ 1000) (hs4 : 4 ≤ s.size) (hasc : ∀ j (h : j < s.size), (s[j]'h).toNat < 128) (r : Int) (h1 : 128 ≤ r) (h2 : r ≤ 1114111) (hne : r ≠ 65533) (hv : Lib.validRune r = true) (w : World) :
    Calls Tryz.prog 76 #[.string s, .int .i32 r] w (GivesInt (-1) w) := by
  have HV := Aside0.mk (show ∀ w, Calls Tryz.prog 88 #[.int .i32 r] w fun e w' => e = .returned (.bool true) ∧ w = w' from fun w => (Tryz.utf8_ValidRune r w).mono fun e w' ⟨h, k⟩ => ⟨by rw [h, hv], k.symm⟩)
  have d3 : (r == (65533 : Int)) = false := beq_eq_false_iff_ne.2 hne
  obtain ⟨e1, e2, e3⟩ := encode_high r h1
  obtain ⟨q, hq⟩ : ∃ q, Utf8.encode r = q := ⟨_, rfl⟩
  rw [hq] at e1 e2 e3
  obtain ⟨k, hk⟩ : ∃ k, q.size = k + 1 := ⟨q.size - 1, by omega⟩
  have hklt : k < s.size := by omega
  have hkq : k < q.size := by omega
  have e5 : 128 ≤ (q[k]'hkq).toNat := by
    obtain ⟨x, hx, hx2⟩ := e3
    rw [show q.size - 1 = k from by omega, List.getElem?_eq_getElem (by simp; omega)] at hx
    have : q[k]'hkq = x := Option.some.inj hx
    rw [this]; exact hx2
  have hsk := hasc k hklt
  have hnb : ∀ h h', (((s[k]'h).toNat : Int) != ((q[k]'h').toNat : Int)) = true := fun _ _ => by rw [bne_iff_ne]; omega
  have HI := Aside0.mk (show ∀ w, Calls Tryz.prog 12 #[.string (s.extract (k + 1) s.size), .int .u8 (q[k]'hkq).toNat] w fun e w' => e = .returned (.int .i64 (-1)) ∧ w = w' from fun w =>
    (Tryz.strings_IndexByte _ _ w).mono fun e w' ⟨h, g⟩ => ⟨by
      rw [h, indexByte_high]
      · intro x hx
        rw [extract_list] at hx
        obtain ⟨j, hj, rfl⟩ := List.getElem_of_mem (List.mem_of_mem_drop hx)
        exact hasc j (by simpa using hj)
      · simpa using e5, g.symm⟩)
  have d1 : decide ((0 : Int) ≤ r) = true := decide_eq_true (by omega)
  have d2 : decide (r < (128 : Int)) = false := decide_eq_false (by omega)
  have HK := Aside0.mk hk
  have hk3 : k ≤ 3 := by omega
  clear hv hasc e3 e5 hsk hk hne
  go_enter Tryz.func76, Tryz.ntmps76
  go_wp2_with (go_at_call 88; refine (HV.out _).mono ?_; rintro e w' ⟨rfl, rfl⟩)
  go_step3
  go_wp2_with (go_at_call 12; refine (HI.out _).mono ?_; rintro e w' ⟨rfl, rfl⟩)
  rw [show ((q.size : Int) - 1) = (k : Int) from by have := HK.out; omega]
  go_loopw [9] (fun i wr => i = .int .i64 k ∧ Aside0 (wr = w)) (fun _ _ => 0)
  case atStart => exact ⟨rfl, ⟨rfl⟩⟩
  case round =>
    obtain ⟨rfl, ⟨hw⟩⟩ := hrel
    subst hw
    go_wp2
    go_step3
    go_wp2
    go_quiet (fail)
    go_wp2
    have HW := Aside0.mk (pw_below_drewN (Below.refl wr.heap.size wr) nq)
    generalize wr.drewN nq = W1 at *
    have w1 : IntKind.i64.wrap ((k : Int) + 1) = (k : Int) + 1 := IntWalk.i64_in _ (by omega)
    have w2 : (0 : Int) ≤ (k : Int) + 1 := by omega
    have w3 : ((k : Int) + 1).toNat = k + 1 := by omega
    have w4 : (k : Int) + 1 ≤ (s.size : Int) := by omega
    go_quiet ((go_at_call 12; exact Calls.quiet_of_same ((HI.out _).mono fun _ _ h => ⟨h.1, h.2.symm⟩)))
    go_wp2
    rw [Exit.noGoto_ret]
    go_wp2
    (try rw [Exit.noGoto_ret])
    go_ret
    exact ⟨rfl, pw_below_drewN HW.out _⟩

end Go.Proofs.YtdlfjokhgmngcaaGreatDoor.Lx

/-! The closure that tells where a number's digits end, and where IndexFunc finds that. -/
namespace Go.Proofs.YtdlfjokhgmngcaaGreatDoor.Lx
open Go.RowKit Go.Shelf Go.Proofs.YtdlfjokhgmngcaaGreatDoorW.PrintWords
set_option linter.unusedVariables false
set_option linter.unusedSimpArgs false

def digB (x : Nat) : Bool := decide (48 ≤ x ∧ x ≤ 57)
def hexB (x : Nat) : Bool := decide (48 ≤ x ∧ x ≤ 57) || decide (97 ≤ x ∧ x ≤ 102) || decide (65 ≤ x ∧ x ≤ 70)
def decS : ByteArray := ⟨#[48, 49, 50, 51, 52, 53, 54, 55, 56, 57]⟩
def hexS : ByteArray := ⟨#[48, 49, 50, 51, 52, 53, 54, 55, 56, 57, 97, 98, 99, 100, 101, 102, 65, 66, 67, 68, 69, 70]⟩

/-- Behind a call that hands back a Bool, and makes memory at most. -/
def GivesB (n : Bool) (w : World) (e : Ending) (w' : World) : Prop := e = .returned (.bool n) ∧ Below w.heap.size w w'

set_option maxRecDepth 100000 in
set_option maxHeartbeats 1600000 in
theorem contains_high (s : ByteArray) (hs : s.size ≤ 1000) (hs4 : 4 ≤ s.size) (hasc : ∀ j (h : j < s.size), (s[j]'h).toNat < 128) (r : Int) (h1 : 128 ≤ r) (h2 : r ≤ 1114111) (w : World) :
    Calls Tryz.prog 62 #[.string s, .int .i32 r] w (GivesB false w) := by
  have HI : Aside0 (∀ w, Calls Tryz.prog 76 #[.string s, .int .i32 r] w (GivesInt (-1) w)) := ⟨fun w => by
    by_cases he : r = 65533
    · subst he; exact indexRune_err s hs hasc w
    · cases hv : Lib.validRune r with
      | true => exact indexRune_high s hs hs4 hasc r h1 h2 he hv w
      | false => exact indexRune_bad s r h1 h2 hv w⟩
  clear hasc
  go_enter Tryz.func62, Tryz.ntmps62
  go_wp2_with (go_at_call 76; refine (HI.out _).mono ?_; rintro e w' ⟨rfl, hb⟩; have HB := Aside0.mk hb; clear hb)
  go_ret
  exact ⟨rfl, HB.out⟩

theorem contains_low (s : ByteArray) (x : Nat) (b : Bool) (hb : decide (0 ≤ Lib.indexByte s.data.toList x.toUInt8) = b) (h : x < 128) (w : World) :
    Calls Tryz.prog 62 #[.string s, .int .i32 x] w (GivesB b w) :=
  (Tryz.strings_ContainsRune_ascii s x w (by omega) (by omega)).mono fun e w' ⟨h1, h2⟩ => ⟨by rw [h1]; simp [hb], h2 ▸ Below.refl _ _⟩

theorem dec_low : ∀ x, x < 128 → decide (0 ≤ Lib.indexByte decS.data.toList x.toUInt8) = digB x := by decide +kernel
theorem hex_low : ∀ x, x < 128 → decide (0 ≤ Lib.indexByte hexS.data.toList x.toUInt8) = hexB x := by decide +kernel
theorem dec_asc : ∀ j (h : j < decS.size), (decS[j]'h).toNat < 128 := by decide +kernel
theorem hex_asc : ∀ j (h : j < hexS.size), (hexS[j]'h).toNat < 128 := by decide +kernel
theorem dig_high {x : Nat} (h : 128 ≤ x) : digB x = false := decide_eq_false (by omega)
theorem hex_high {x : Nat} (h : 128 ≤ x) : hexB x = false := by
  unfold hexB
  rw [decide_eq_false (by omega), decide_eq_false (by omega), decide_eq_false (by omega)]; rfl

theorem contains_dec (x : Nat) (hx : x ≤ 1114111) (w : World) : Calls Tryz.prog 62 #[.string ⟨#[48, 49, 50, 51, 52, 53, 54, 55, 56, 57]⟩, .int .i32 x] w (GivesB (digB x) w) := by
  rcases Nat.lt_or_ge x 128 with h | h
  · exact contains_low decS x _ (dec_low x h) h w
  · rw [dig_high h]; exact contains_high decS (by decide) (by decide) dec_asc x (by omega) (by omega) w
theorem contains_hex (x : Nat) (hx : x ≤ 1114111) (w : World) : Calls Tryz.prog 62 #[.string ⟨#[48, 49, 50, 51, 52, 53, 54, 55, 56, 57, 97, 98, 99, 100, 101, 102, 65, 66, 67, 68, 69, 70]⟩, .int .i32 x] w (GivesB (hexB x) w) := by
  rcases Nat.lt_or_ge x 128 with h | h
  · exact contains_low hexS x _ (hex_low x h) h w
  · rw [hex_high h]; exact contains_high hexS (by decide) (by decide) hex_asc x (by omega) (by omega) w

/-- Is a rune no digit to the base? -/
def stopB (base : Int) (x : Nat) : Bool := if base = 10 then !digB x else !hexB x

set_option maxRecDepth 100000 in
set_option maxHeartbeats 1600000 in
theorem number1_16 (g : Nat) (x : Nat) (hx : x ≤ 1114111) (w : World) (hc : w.cell? ⟨g, 0, none⟩ = some (.int .i64 16)) :
    Calls Tryz.prog 61 #[.int .i32 x, .pointer (some ⟨g, 0, none⟩)] w (GivesB (stopB 16 x) w) := by
  obtain ⟨v, hv⟩ : ∃ v, hexB x = v := ⟨_, rfl⟩
  have HC := Aside0.mk (contains_hex x hx w)
  rw [hv] at HC
  have HV := Aside0.mk hv
  clear hv
  go_enter Tryz.func61, Tryz.ntmps61
  go_wp2_with (go_at_call 62; refine HC.out.mono ?_; rintro e w' ⟨rfl, hb⟩; have HB := Aside0.mk hb; clear hb)
  go_ret
  exact ⟨by rw [stopB, if_neg (by decide), HV.out]; rfl, HB.out⟩

set_option maxRecDepth 100000 in
set_option maxHeartbeats 1600000 in
theorem number1_10 (g : Nat) (x : Nat) (hx : x ≤ 1114111) (w : World) (hc : w.cell? ⟨g, 0, none⟩ = some (.int .i64 10)) :
    Calls Tryz.prog 61 #[.int .i32 x, .pointer (some ⟨g, 0, none⟩)] w (GivesB (stopB 10 x) w) := by
  have HD := Aside0.mk (contains_dec x hx w)
  cases hv : digB x with
  | true =>
    rw [hv] at HD
    have hh : hexB x = true := by
      unfold digB at hv
      unfold hexB
      rw [hv]; rfl
    have HH := Aside0.mk (fun w => contains_hex x hx w)
    rw [hh] at HH
    have HV := Aside0.mk hv
    clear hv hh
    go_enter Tryz.func61, Tryz.ntmps61
    go_wp2_with fail
    refine HD.out.mono ?_
    rintro e w1 ⟨rfl, hb⟩
    have HB := Aside0.mk hb
    clear hb
    go_wp2_with fail
    refine (HH.out w1).mono ?_
    rintro e w2 ⟨rfl, hb⟩
    have HB2 := Aside0.mk (below_step HB.out hb)
    clear hb
    go_wp2
    go_ret
    exact ⟨by rw [stopB, if_pos rfl, HV.out]; rfl, HB2.out⟩
  | false =>
    rw [hv] at HD
    have HV := Aside0.mk hv
    clear hv
    go_enter Tryz.func61, Tryz.ntmps61
    go_wp2_with (go_at_call 62; refine HD.out.mono ?_; rintro e w' ⟨rfl, hb⟩; have HB := Aside0.mk hb; clear hb)
    go_ret
    exact ⟨by rw [stopB, if_pos rfl, HV.out]; rfl, HB.out⟩

theorem stop_high {base : Int} {x : Nat} (h : 128 ≤ x) : stopB base x = true := by
  unfold stopB
  rw [dig_high h, hex_high h]; split <;> rfl

/-- How many digits to the base stand at the head. -/
def digN (base : Int) (l : List UInt8) : Nat := (l.takeWhile fun c => !stopB base c.toNat).length

theorem idx_from (base : Int) (s : ByteArray) : ∀ (f pos : Nat), s.size ≤ pos + f →
    Lib.idxFuncFrom (stopB base) true s f pos = if pos + digN base (s.data.toList.drop pos) < s.size then ((pos + digN base (s.data.toList.drop pos) : Nat) : Int) else -1
  | 0, pos, h => by
    rw [if_neg (by omega)]; rfl
  | f + 1, pos, h => by
    unfold Lib.idxFuncFrom
    by_cases hp : pos < s.size
    · rw [if_pos hp, drop_cons_at s pos hp]
      by_cases ha : (s[pos]).toNat < 128
      · have hd : Utf8.decode s pos = ((s[pos]).toNat, 1) := decode_ascii s pos hp ha
        rw [hd]
        cases hst : stopB base (s[pos]).toNat with
        | true =>
          simp only [if_true]
          have : digN base (s[pos] :: s.data.toList.drop (pos + 1)) = 0 := by simp [digN, List.takeWhile_cons, hst]
          rw [this, if_pos (by omega)]; rfl
        | false =>
          simp only [Bool.false_eq_true, if_false]
          have : digN base (s[pos] :: s.data.toList.drop (pos + 1)) = digN base (s.data.toList.drop (pos + 1)) + 1 := by simp [digN, List.takeWhile_cons, hst]
          rw [this, idx_from base s f (pos + 1) (by omega)]
          rw [show pos + (digN base (s.data.toList.drop (pos + 1)) + 1) = pos + 1 + digN base (s.data.toList.drop (pos + 1)) from by omega]
      · have hd := decode_high s pos hp (by omega)
        have h1 : stopB base (Utf8.decode s pos).1 = true := stop_high hd.1
        have h2 : stopB base (s[pos]).toNat = true := stop_high (by omega)
        rw [h1]
        simp only [if_true]
        have : digN base (s[pos] :: s.data.toList.drop (pos + 1)) = 0 := by simp [digN, List.takeWhile_cons, h2]
        rw [this, if_pos (by omega)]; rfl
    · rw [if_neg hp, if_neg (by omega)]

/-- Behind 'IndexFunc' of a number's digits. -/
theorem index_any (base : Int) (hbase : base = 10 ∨ base = 16) (g : Nat) (s : ByteArray) (w : World) (hc : w.cell? ⟨g, 0, none⟩ = some (.int .i64 base)) :
    Calls Tryz.prog 63 #[.string s, .func (.func 61) #[] #[.pointer (some ⟨g, 0, none⟩)]] w (GivesInt (if digN base s.data.toList < s.size then (digN base s.data.toList : Int) else -1) w) := by
  have hgl := World.block_lt_of_cell? w _ hc
  have hp : PredGrows Tryz.prog 61 #[.pointer (some ⟨g, 0, none⟩)] (stopB base) w := by
    intro W x hx hb
    have hc' := (hb.cell (p := ⟨g, 0, none⟩) hgl).trans hc
    rcases hbase with rfl | rfl
    · exact number1_10 g x hx W hc'
    · exact number1_16 g x hx W hc'
  refine (Tryz.strings_IndexFunc_grows 61 _ (enters_of Tryz.func61 (by kernel_rfl) rfl) (stopB base) s w hp).mono ?_
  rintro e w' ⟨rfl, hb⟩
  have h := idx_from base s s.size 0 (by omega)
  rw [List.drop_zero, Nat.zero_add] at h
  exact ⟨by rw [← h]; rfl, hb⟩

end Go.Proofs.YtdlfjokhgmngcaaGreatDoor.Lx

/-! strconv.ParseUint at the bases 10 and 16, at digits alone: the number, if 64 bits hold it; else an error. -/
namespace Go.Proofs.YtdlfjokhgmngcaaGreatDoor.Lx
open Go.RowKit Go.Shelf Go.Proofs.YtdlfjokhgmngcaaGreatDoorW.PrintWords
set_option linter.unusedVariables false
set_option linter.unusedSimpArgs false

/-- A digit's value. -/
def dv (c : Nat) : Nat := if c ≤ 57 then c - 48 else if 97 ≤ c then c - 87 else c - 55
/-- The value of digits. -/
def valN (base : Nat) (acc : Nat) (l : List UInt8) : Nat := l.foldl (fun a c => a * base + dv c.toNat) acc
/-- What the library comes to: none: out of range. -/
def pu16 : Nat → List UInt8 → Option Nat
  | acc, [] => some acc
  | acc, c :: l => if 1152921504606846976 ≤ acc then none else if 18446744073709551616 ≤ acc * 16 + dv c.toNat then none else pu16 (acc * 16 + dv c.toNat) l
theorem valN_le (base : Nat) (hb : 1 ≤ base) (l : List UInt8) : ∀ acc, acc ≤ valN base acc l := by
  induction l with
  | nil => intro acc; exact Nat.le_refl _
  | cons c l ih =>
    intro acc
    have h := ih (acc * base + dv c.toNat)
    have h2 : acc ≤ acc * base := Nat.le_mul_of_pos_right acc hb
    show acc ≤ valN base (acc * base + dv c.toNat) l
    omega
theorem pu16_step (acc : Nat) (c : UInt8) (l : List UInt8) : pu16 acc (c :: l) = if 1152921504606846976 ≤ acc then none else if 18446744073709551616 ≤ acc * 16 + dv c.toNat then none else pu16 (acc * 16 + dv c.toNat) l := rfl
theorem valN_step (b acc : Nat) (c : UInt8) (l : List UInt8) : valN b acc (c :: l) = valN b (acc * b + dv c.toNat) l := rfl
theorem pu16_some : ∀ (l : List UInt8) (acc v : Nat), acc < 18446744073709551616 → pu16 acc l = some v → v = valN 16 acc l ∧ v < 18446744073709551616
  | [], acc, v, ha, h => by
    obtain rfl := Option.some.inj h
    exact ⟨rfl, ha⟩
  | c :: l, acc, v, ha, h => by
    have ih := pu16_some l (acc * 16 + dv c.toNat) v
    rw [pu16_step] at h
    rw [valN_step]
    generalize acc * 16 + dv c.toNat = A at *
    by_cases h1 : 1152921504606846976 ≤ acc
    · rw [if_pos h1] at h; cases h
    · rw [if_neg h1] at h
      by_cases h2 : 18446744073709551616 ≤ A
      · rw [if_pos h2] at h; cases h
      · rw [if_neg h2] at h
        exact ih (by omega) h
theorem pu16_none : ∀ (l : List UInt8) (acc : Nat), pu16 acc l = none → 18446744073709551616 ≤ valN 16 acc l
  | [], acc, h => by cases h
  | c :: l, acc, h => by
    have hm := valN_le 16 (by decide) l (acc * 16 + dv c.toNat)
    have ih := pu16_none l (acc * 16 + dv c.toNat)
    rw [pu16_step] at h
    rw [valN_step]
    have h0 : acc * 16 ≤ acc * 16 + dv c.toNat := by omega
    generalize acc * 16 + dv c.toNat = A at *
    by_cases h1 : 1152921504606846976 ≤ acc
    · omega
    · rw [if_neg h1] at h
      by_cases h2 : 18446744073709551616 ≤ A
      · omega
      · rw [if_neg h2] at h
        exact ih h

def pres : Option Nat → Value
  | some v => .tuple #[.int .u64 v, .nilIface]
  | none => .tuple #[.int .u64 18446744073709551615, .iface 156 (.int .i64 1)]

theorem low_hex : ∀ c : Nat, c < 256 → hexB c = true → ¬ c ≤ 57 → 97 ≤ Go.bits .or .u8 (c : Int) 32 ∧ Go.bits .or .u8 (c : Int) 32 ≤ 102 ∧ Go.bits .or .u8 (c : Int) 32 = (dv c : Int) + 87 := by decide +kernel
theorem dv_hex : ∀ c : Nat, c < 256 → hexB c = true → dv c ≤ 15 := by decide +kernel
theorem dv_dig {c : Nat} (h : c ≤ 57) : dv c = c - 48 := by unfold dv; rw [if_pos h]
theorem hex_ne : ∀ c : Nat, c < 256 → hexB c = true → (((c : Nat) : Int) == 95) = false := by decide +kernel
theorem hex_ge : ∀ c : Nat, c < 256 → hexB c = true → 48 ≤ c := by decide +kernel

set_option maxHeartbeats 32000000 in
set_option maxRecDepth 100000 in
theorem iparse16 (t : ByteArray) (hne : t.size ≠ 0) (hmax : t.size ≤ 20000) (hd : ∀ c ∈ t.data.toList, hexB c.toNat = true) (w : World) :
    Calls Tryz.prog 78 #[.string t, .int .i64 16, .int .i64 64] w fun e w' => e = .returned (pres (pu16 0 t.data.toList)) ∧ w' = Lib.bytesWorld w 5 t := by
  have hemp : t.toList.isEmpty = false := by
    rw [← decide_eq_emptyBytes]
    exact decide_eq_false (fun h => hne (by rw [h]; rfl))
  have hcv := Lib.run_convert_string_bytes (P := Tryz.prog) w 9 22 5 t Tryz.underlying9 Tryz.underlying22 Tryz.underlying5
  have hB : ∀ j, j < t.size → (Lib.bytesWorld w 5 t).cell? ⟨w.heap.size, j, none⟩ = some (.int .u8 (t.data.toList.getD j 0).toNat) := fun j hj => Lib.bytesWorld_cell w 5 t j hj
  obtain ⟨W1, hW1⟩ : ∃ W1, W1 = Lib.bytesWorld w 5 t := ⟨_, rfl⟩
  rw [← hW1] at hcv hB ⊢
  clear hW1
  obtain ⟨bs, hL⟩ : ∃ bs, bs = t.data.toList := ⟨_, rfl⟩
  have hLn : bs.length = t.size := by rw [hL, Lib.size_eq]
  rw [← hL] at hB hd ⊢
  clear hL
  have HD := Aside0.mk hd
  have HBB := Aside0.mk hB
  have HLn := Aside0.mk hLn
  clear hd hB hLn
  have hmv : IntKind.u64.wrap (IntKind.u64.wrap 18446744073709551616 - 1) = 18446744073709551615 := by
    rw [IntKind.wrap_u64, IntKind.wrap_u64]
    decide
  go_enter Tryz.func78, Tryz.ntmps78
  go_wp2
  go_loop [12, 13, 101] (fun vu vn vi => ∃ (k acc : Nat) (a : Int), vu = .bool false ∧ vn = .int .u64 a ∧ vi = .int .i64 k ∧ k ≤ t.size ∧ Aside0 (a = (acc : Int) ∧ acc < 18446744073709551616 ∧ pu16 0 bs = pu16 acc (bs.drop k)))
    (fun _ _ vi => t.size - (intOf vi).toNat)
  case atStart => exact ⟨0, 0, 0, rfl, rfl, rfl, by omega, ⟨rfl, by omega, rfl⟩⟩
  case round =>
    obtain ⟨k, acc, a, rfl, rfl, rfl, hk, hh⟩ := hrel
    obtain ⟨ha, hacc, hdec⟩ := hh.out
    clear hh
    have a0 : 0 ≤ a := by omega
    have a1 : a < 18446744073709551616 := by omega
    by_cases hkn : k < t.size
    · have hlen := HLn.out
      have hc := HBB.out k hkn
      have hdrop : bs.drop k = bs[k]'(by omega) :: bs.drop (k + 1) := List.drop_eq_getElem_cons (by omega)
      have hget : bs.getD k 0 = bs[k]'(by omega) := by simp [List.getD, List.getElem?_eq_getElem (show k < bs.length by omega)]
      have hx := HD.out (bs[k]'(by omega)) (List.getElem_mem _)
      rw [hdrop] at hdec
      rw [hget] at hc
      generalize bs[k]'(by omega) = c8 at hc hdec hx
      have hc256 : c8.toNat < 256 := c8.toNat_lt
      have hstep : pu16 acc (c8 :: bs.drop (k + 1)) = if 1152921504606846976 ≤ acc then none else if 18446744073709551616 ≤ acc * 16 + dv c8.toNat then none else pu16 (acc * 16 + dv c8.toNat) (bs.drop (k + 1)) := rfl
      rw [hstep] at hdec
      generalize c8.toNat = c at hc hdec hx hc256
      clear hdrop hget hlen hstep
      have hge := hex_ge c hc256 hx
      have h95 := hex_ne c hc256 hx
      have hd15 := dv_hex c hc256 hx
      have hlow := low_hex c hc256 hx
      have hdig : c ≤ 57 → dv c = c - 48 := dv_dig
      generalize dv c = D at hdec hd15 hlow hdig
      by_cases hcut : 1152921504606846976 ≤ acc
      · rw [if_pos hcut] at hdec
        have HDec := Aside0.mk hdec
        have icut : 1152921504606846976 ≤ a := by omega
        by_cases h57 : c ≤ 57
        · clear hcut hacc hdec ha hlow hdig hx
          go_wp2
          go_ret2
          exact ⟨by rw [HDec.out]; rfl, rfl⟩
        · obtain ⟨hl1, hl2, hl3⟩ := hlow h57
          have HLow := Aside0.mk (fun w => Tryz.internal_strconv_lower (c : Int) w)
          generalize Go.bits .or .u8 (c : Int) 32 = x at HLow hl1 hl2 hl3
          clear hcut hacc hdec ha hlow hdig hx hl3
          go_wp2_with (go_at_call 89; refine (HLow.out _).mono ?_; rintro e w' ⟨rfl, rfl⟩)
          go_ret2
          exact ⟨by rw [HDec.out]; rfl, rfl⟩
      · rw [if_neg hcut] at hdec
        have icut : a < 1152921504606846976 := by omega
        by_cases h57 : c ≤ 57
        · have hD : D = c - 48 := hdig h57
          by_cases hov : 18446744073709551616 ≤ acc * 16 + D
          · omega
          · rw [if_neg hov] at hdec
            have HN := Aside0.mk (show a * 16 + ((c : Int) - 48) = ((acc * 16 + D : Nat) : Int) ∧ acc * 16 + D < 18446744073709551616 ∧ pu16 0 bs = pu16 (acc * 16 + D) (bs.drop (k + 1)) from ⟨by omega, by omega, hdec⟩)
            have iov : a * 16 + ((c : Int) - 48) < 18446744073709551616 := by omega
            clear hcut hacc hdec ha hlow hdig hx hD hov hd15
            go_wp2
            refine ⟨⟨k + 1, acc * 16 + D, a * 16 + ((c : Int) - 48), rfl, (by first | rfl | (congr 1; omega)), (by first | rfl | (congr 1; omega)), by omega, HN⟩, by simp [intOf]; omega⟩
        · obtain ⟨hl1, hl2, hl3⟩ := hlow h57
          have HLow := Aside0.mk (fun w => Tryz.internal_strconv_lower (c : Int) w)
          generalize Go.bits .or .u8 (c : Int) 32 = x at HLow hl1 hl2 hl3
          by_cases hov : 18446744073709551616 ≤ acc * 16 + D
          · omega
          · rw [if_neg hov] at hdec
            have HN := Aside0.mk (show a * 16 + (x - 97 + 10) = ((acc * 16 + D : Nat) : Int) ∧ acc * 16 + D < 18446744073709551616 ∧ pu16 0 bs = pu16 (acc * 16 + D) (bs.drop (k + 1)) from ⟨by omega, by omega, hdec⟩)
            have iov : a * 16 + (x - 97 + 10) < 18446744073709551616 := by omega
            clear hcut hacc hdec ha hlow hdig hx hl3 hov hd15
            go_wp2_with (go_at_call 89; refine (HLow.out _).mono ?_; rintro e w' ⟨rfl, rfl⟩)
            refine ⟨⟨k + 1, acc * 16 + D, a * 16 + (x - 97 + 10), rfl, (by first | rfl | (congr 1; omega)), (by first | rfl | (congr 1; omega)), by omega, HN⟩, by simp [intOf]; omega⟩
    · have hkk : k = t.size := by omega
      subst hkk
      have hF : pu16 acc (bs.drop t.size) = some acc := by rw [List.drop_eq_nil_of_le (by have := HLn.out; omega)]; rfl
      rw [hF] at hdec
      have HDec := Aside0.mk hdec
      have HA := Aside0.mk ha
      clear hacc hF hdec ha
      go_wp2
      go_ret2
      exact ⟨by rw [HDec.out, pres, ← HA.out]; rfl, rfl⟩

theorem valN_dig : ∀ (l : List UInt8) (acc : Nat), (∀ c ∈ l, digB c.toNat = true) → acc < 18446744073709551616 →
    Lib.parseUintM 18446744073709551615 acc l = if valN 10 acc l < 18446744073709551616 then .ok (valN 10 acc l) else .range
  | [], acc, _, ha => by
    show Lib.NumEnd.ok acc = if acc < 18446744073709551616 then Lib.NumEnd.ok acc else .range
    rw [if_pos ha]
  | c :: l, acc, h, ha => by
    have hc : 48 ≤ c.toNat ∧ c.toNat ≤ 57 := of_decide_eq_true (h c (by simp))
    have hm := valN_le 10 (by decide) l (acc * 10 + dv c.toNat)
    have ih := valN_dig l (acc * 10 + dv c.toNat) (fun x hx => h x (by simp [hx]))
    have hd : dv c.toNat = c.toNat - 48 := dv_dig hc.2
    have h0 : acc * 10 ≤ acc * 10 + dv c.toNat := by omega
    rw [valN_step]
    unfold Lib.parseUintM
    rw [if_pos hc, ← hd]
    generalize acc * 10 + dv c.toNat = A at *
    by_cases h1 : 1844674407370955162 ≤ acc
    · rw [if_pos h1, if_neg (by omega)]
    · rw [if_neg h1]
      by_cases h2 : 18446744073709551615 < A
      · rw [if_pos h2, if_neg (by omega)]
      · rw [if_neg h2]
        exact ih (by omega)

/-- What package-level variables the lexer leans on. -/
structure Laid (w : World) : Prop where
  tab : Lib.TabIs Tryz.prog w "strings.asciiSpace" .u8 Lib.asciiSpaceTab
  err : ∃ ev, w.cell? ⟨5, 0, none⟩ = some ev ∧ (ev = .nilIface ∨ ∃ te pe, ev = .iface te pe)

theorem var_keep {w w' : World} {n : String} {g : Nat} (hn : Tryz.prog.globalNamed n = some g) (h : w'.heap[g]? = w.heap[g]?) : w'.var? Tryz.prog n = w.var? Tryz.prog n := by
  unfold World.var?
  rw [hn]
  simp only [Option.bind_some, h]
theorem Laid.keep {w w' : World} (h : Laid w) (h1 : w'.heap[2]? = w.heap[2]?) (h2 : w'.heap[5]? = w.heap[5]?) : Laid w' := by
  refine ⟨?_, ?_⟩
  · unfold Lib.TabIs
    rw [var_keep (g := 2) (by kernel_rfl) h1]
    exact h.tab
  · obtain ⟨ev, he, h3⟩ := h.err
    exact ⟨ev, (World.cell?_of_block (w := w) h2).trans he, h3⟩

/-- Behind 'ParseUint': the number, or an error. -/
def PU (v : Nat) (w : World) (e : Ending) (w' : World) : Prop :=
  Below w.heap.size w w' ∧ ((v < 18446744073709551616 ∧ e = .returned (.tuple #[.int .u64 v, .nilIface])) ∨ (18446744073709551616 ≤ v ∧ ∃ n x, e = .returned (.tuple #[.int .u64 n, .iface 158 x])))

theorem bytes_below (w : World) (e : TypeId) (s : ByteArray) : Below w.heap.size w (Lib.bytesWorld w e s) :=
  ⟨rfl, rfl, rfl, by rw [Lib.bytesWorld_size]; omega, fun k hk => Lib.bytesWorld_at_old w e s k hk⟩

set_option maxHeartbeats 3200000 in
set_option maxRecDepth 100000 in
theorem parse_of (t : ByteArray) (hmax : t.size ≤ 20000) (base : Int) (v : Nat) (w : World) (hL : Laid w)
    (hi : Calls Tryz.prog 78 #[.string t, .int .i64 base, .int .i64 64] w fun e w' => e = .returned (if v < 18446744073709551616 then .tuple #[.int .u64 v, .nilIface] else .tuple #[.int .u64 18446744073709551615, .iface 156 (.int .i64 1)]) ∧ Below w.heap.size w w') :
    Calls Tryz.prog 64 #[.string t, .int .i64 base, .int .i64 64] w (PU v w) := by
  by_cases hv : v < 18446744073709551616
  · rw [if_pos hv] at hi
    have HI := Aside0.mk hi
    have HV := Aside0.mk hv
    clear hi hL hv
    go_enter Tryz.func64, Tryz.ntmps64
    go_wp2_with (go_at_call 78; refine HI.out.mono ?_; rintro e w' ⟨rfl, hb⟩; have HB := Aside0.mk hb; clear hb)
    go_ret2
    exact ⟨HB.out, .inl ⟨HV.out, rfl⟩⟩
  · rw [if_neg hv] at hi
    have HI := Aside0.mk hi
    have HV := Aside0.mk (show 18446744073709551616 ≤ v by omega)
    have HL := Aside0.mk hL
    clear hi hL hv
    go_enter Tryz.func64, Tryz.ntmps64
    go_wp2_with fail
    refine HI.out.mono ?_
    rintro e w1 ⟨rfl, hb⟩
    have HB := Aside0.mk hb
    obtain ⟨ev, he, h3⟩ := HL.out.err
    have he1 := pw_cell_below hb he
    have HT := Aside0.mk (fun base bits => Tryz.strconv_toError_range ⟨#[80, 97, 114, 115, 101, 85, 105, 110, 116]⟩ t base bits ev w1 (by omega) he1 h3)
    clear hb he h3 he1
    go_wp2_with fail
    refine (HT.out _ _).mono ?_
    rintro e w2 ⟨N, rfl, _, _, hb2⟩
    have HB2 := Aside0.mk (below_step HB.out hb2)
    clear hb2
    go_wp2
    go_ret2
    exact ⟨HB2.out, .inr ⟨HV.out, _, _, rfl⟩⟩

theorem parse16 (t : ByteArray) (hne : t.size ≠ 0) (hmax : t.size ≤ 20000) (hd : ∀ c ∈ t.data.toList, hexB c.toNat = true) (w : World) (hL : Laid w) :
    Calls Tryz.prog 64 #[.string t, .int .i64 16, .int .i64 64] w (PU (valN 16 0 t.data.toList) w) := by
  refine parse_of t hmax 16 _ w hL ((iparse16 t hne hmax hd w).mono ?_)
  rintro e w' ⟨rfl, rfl⟩
  refine ⟨?_, bytes_below w _ t⟩
  cases hp : pu16 0 t.data.toList with
  | some v =>
    obtain ⟨h1, h2⟩ := pu16_some _ 0 v (by omega) hp
    rw [← h1, if_pos h2]; rfl
  | none =>
    have := pu16_none _ 0 hp
    rw [if_neg (by omega)]; rfl

theorem parse10 (t : ByteArray) (hne : t.size ≠ 0) (hmax : t.size ≤ 20000) (hd : ∀ c ∈ t.data.toList, digB c.toNat = true) (w : World) (hL : Laid w) :
    Calls Tryz.prog 64 #[.string t, .int .i64 10, .int .i64 64] w (PU (valN 10 0 t.data.toList) w) := by
  have hnl : t.data.toList ≠ [] := fun h => hne (by rw [Lib.size_eq, h]; rfl)
  have hp : Lib.parseUintB 64 t.data.toList = if valN 10 0 t.data.toList < 18446744073709551616 then .ok (valN 10 0 t.data.toList) else .range := by
    rw [Lib.parseUintB, if_neg hnl, show (2 ^ 64 - 1 : Nat) = 18446744073709551615 from by decide]
    exact valN_dig _ 0 hd (by omega)
  by_cases hv : valN 10 0 t.data.toList < 18446744073709551616
  · rw [if_pos hv] at hp
    refine (Tryz.strconv_ParseUint_10_at64_ok t (by omega) _ hp w).mono ?_
    rintro e w' ⟨rfl, h | h⟩
    · exact ⟨by rw [h]; exact Below.refl _ _, .inl ⟨hv, rfl⟩⟩
    · exact ⟨by rw [h]; exact bytes_below w _ t, .inl ⟨hv, rfl⟩⟩
  · rw [if_neg hv] at hp
    obtain ⟨ev, he, h3⟩ := hL.err
    refine (Tryz.strconv_ParseUint_10_at64_range t (by omega) hp ev w he h3).mono ?_
    rintro e w' ⟨N, rfl, _, _, hb⟩
    exact ⟨hb, .inr ⟨by omega, _, _, rfl⟩⟩

end Go.Proofs.YtdlfjokhgmngcaaGreatDoor.Lx
