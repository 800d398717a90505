/- strconv.ParseUint at the bases 10 and 16, at digits alone: the number, if 64 bits hold it; else an error. -/
import Derived.Test.YtdlfjokhgmngcaaGreatDoorLexO
import Derived.IntWalk
namespace Go.Proofs.YtdlfjokhgmngcaaGreatDoor.Lx
open Go.RowKit Go.Shelf Go.Proofs.YtdlfjokhgmngcaaGreatDoorW.PrintWords
set_option linter.unusedVariables false
set_option linter.unusedSimpArgs false

/-- A digit's value. -/
def dv (c : Nat) : Nat := if c ≤ 57 then c - 48 else if 97 ≤ c then c - 87 else c - 55
/-- The value of digits. -/
def valN (base : Nat) (acc : Nat) (l : List UInt8) : Nat := l.foldl (fun a c => a * base + dv c.toNat) acc
/-- What the library comes to: none: out of range. -/
def pu16 : Nat → List UInt8 → Option Nat
  | acc, [] => some acc
  | acc, c :: l => if 1152921504606846976 ≤ acc then none else if 18446744073709551616 ≤ acc * 16 + dv c.toNat then none else pu16 (acc * 16 + dv c.toNat) l
theorem valN_le (base : Nat) (hb : 1 ≤ base) (l : List UInt8) : ∀ acc, acc ≤ valN base acc l := by
  induction l with
  | nil => intro acc; exact Nat.le_refl _
  | cons c l ih =>
    intro acc
    have h := ih (acc * base + dv c.toNat)
    have h2 : acc ≤ acc * base := Nat.le_mul_of_pos_right acc hb
    show acc ≤ valN base (acc * base + dv c.toNat) l
    omega
theorem pu16_step (acc : Nat) (c : UInt8) (l : List UInt8) : pu16 acc (c :: l) = if 1152921504606846976 ≤ acc then none else if 18446744073709551616 ≤ acc * 16 + dv c.toNat then none else pu16 (acc * 16 + dv c.toNat) l := rfl
theorem valN_step (b acc : Nat) (c : UInt8) (l : List UInt8) : valN b acc (c :: l) = valN b (acc * b + dv c.toNat) l := rfl
theorem pu16_some : ∀ (l : List UInt8) (acc v : Nat), acc < 18446744073709551616 → pu16 acc l = some v → v = valN 16 acc l ∧ v < 18446744073709551616
  | [], acc, v, ha, h => by
    obtain rfl := Option.some.inj h
    exact ⟨rfl, ha⟩
  | c :: l, acc, v, ha, h => by
    have ih := pu16_some l (acc * 16 + dv c.toNat) v
    rw [pu16_step] at h
    rw [valN_step]
    generalize acc * 16 + dv c.toNat = A at *
    by_cases h1 : 1152921504606846976 ≤ acc
    · rw [if_pos h1] at h; cases h
    · rw [if_neg h1] at h
      by_cases h2 : 18446744073709551616 ≤ A
      · rw [if_pos h2] at h; cases h
      · rw [if_neg h2] at h
        exact ih (by omega) h
theorem pu16_none : ∀ (l : List UInt8) (acc : Nat), pu16 acc l = none → 18446744073709551616 ≤ valN 16 acc l
  | [], acc, h => by cases h
  | c :: l, acc, h => by
    have hm := valN_le 16 (by decide) l (acc * 16 + dv c.toNat)
    have ih := pu16_none l (acc * 16 + dv c.toNat)
    rw [pu16_step] at h
    rw [valN_step]
    have h0 : acc * 16 ≤ acc * 16 + dv c.toNat := by omega
    generalize acc * 16 + dv c.toNat = A at *
    by_cases h1 : 1152921504606846976 ≤ acc
    · omega
    · rw [if_neg h1] at h
      by_cases h2 : 18446744073709551616 ≤ A
      · omega
      · rw [if_neg h2] at h
        exact ih h

def pres : Option Nat → Value
  | some v => .tuple #[.int .u64 v, .nilIface]
  | none => .tuple #[.int .u64 18446744073709551615, .iface 156 (.int .i64 1)]

theorem low_hex : ∀ c : Nat, c < 256 → hexB c = true → ¬ c ≤ 57 → 97 ≤ Go.bits .or .u8 (c : Int) 32 ∧ Go.bits .or .u8 (c : Int) 32 ≤ 102 ∧ Go.bits .or .u8 (c : Int) 32 = (dv c : Int) + 87 := by decide +kernel
theorem dv_hex : ∀ c : Nat, c < 256 → hexB c = true → dv c ≤ 15 := by decide +kernel
theorem dv_dig {c : Nat} (h : c ≤ 57) : dv c = c - 48 := by unfold dv; rw [if_pos h]
theorem hex_ne : ∀ c : Nat, c < 256 → hexB c = true → (((c : Nat) : Int) == 95) = false := by decide +kernel
theorem hex_ge : ∀ c : Nat, c < 256 → hexB c = true → 48 ≤ c := by decide +kernel

set_option maxHeartbeats 32000000 in
set_option maxRecDepth 100000 in
theorem iparse16 (t : ByteArray) (hne : t.size ≠ 0) (hmax : t.size ≤ 20000) (hd : ∀ c ∈ t.data.toList, hexB c.toNat = true) (w : World) :
    Calls Tryz.prog 78 #[.string t, .int .i64 16, .int .i64 64] w fun e w' => e = .returned (pres (pu16 0 t.data.toList)) ∧ w' = Lib.bytesWorld w 5 t := by
  have hemp : t.toList.isEmpty = false := by
    rw [← decide_eq_emptyBytes]
    exact decide_eq_false (fun h => hne (by rw [h]; rfl))
  have hcv := Lib.run_convert_string_bytes (P := Tryz.prog) w 9 22 5 t Tryz.underlying9 Tryz.underlying22 Tryz.underlying5
  have hB : ∀ j, j < t.size → (Lib.bytesWorld w 5 t).cell? ⟨w.heap.size, j, none⟩ = some (.int .u8 (t.data.toList.getD j 0).toNat) := fun j hj => Lib.bytesWorld_cell w 5 t j hj
  obtain ⟨W1, hW1⟩ : ∃ W1, W1 = Lib.bytesWorld w 5 t := ⟨_, rfl⟩
  rw [← hW1] at hcv hB ⊢
  clear hW1
  obtain ⟨bs, hL⟩ : ∃ bs, bs = t.data.toList := ⟨_, rfl⟩
  have hLn : bs.length = t.size := by rw [hL, Lib.size_eq]
  rw [← hL] at hB hd ⊢
  clear hL
  have HD := Aside0.mk hd
  have HBB := Aside0.mk hB
  have HLn := Aside0.mk hLn
  clear hd hB hLn
  have hmv : IntKind.u64.wrap (IntKind.u64.wrap 18446744073709551616 - 1) = 18446744073709551615 := by
    rw [IntKind.wrap_u64, IntKind.wrap_u64]
    decide
  go_enter Tryz.func78, Tryz.ntmps78
  go_wp2
  go_loop [12, 13, 101] (fun vu vn vi => ∃ (k acc : Nat) (a : Int), vu = .bool false ∧ vn = .int .u64 a ∧ vi = .int .i64 k ∧ k ≤ t.size ∧ Aside0 (a = (acc : Int) ∧ acc < 18446744073709551616 ∧ pu16 0 bs = pu16 acc (bs.drop k)))
    (fun _ _ vi => t.size - (intOf vi).toNat)
  case atStart => exact ⟨0, 0, 0, rfl, rfl, rfl, by omega, ⟨rfl, by omega, rfl⟩⟩
  case round =>
    obtain ⟨k, acc, a, rfl, rfl, rfl, hk, hh⟩ := hrel
    obtain ⟨ha, hacc, hdec⟩ := hh.out
    clear hh
    have a0 : 0 ≤ a := by omega
    have a1 : a < 18446744073709551616 := by omega
    by_cases hkn : k < t.size
    · have hlen := HLn.out
      have hc := HBB.out k hkn
      have hdrop : bs.drop k = bs[k]'(by omega) :: bs.drop (k + 1) := List.drop_eq_getElem_cons (by omega)
      have hget : bs.getD k 0 = bs[k]'(by omega) := by simp [List.getD, List.getElem?_eq_getElem (show k < bs.length by omega)]
      have hx := HD.out (bs[k]'(by omega)) (List.getElem_mem _)
      rw [hdrop] at hdec
      rw [hget] at hc
      generalize bs[k]'(by omega) = c8 at hc hdec hx
      have hc256 : c8.toNat < 256 := c8.toNat_lt
      have hstep : pu16 acc (c8 :: bs.drop (k + 1)) = if 1152921504606846976 ≤ acc then none else if 18446744073709551616 ≤ acc * 16 + dv c8.toNat then none else pu16 (acc * 16 + dv c8.toNat) (bs.drop (k + 1)) := rfl
      rw [hstep] at hdec
      generalize c8.toNat = c at hc hdec hx hc256
      clear hdrop hget hlen hstep
      have hge := hex_ge c hc256 hx
      have h95 := hex_ne c hc256 hx
      have hd15 := dv_hex c hc256 hx
      have hlow := low_hex c hc256 hx
      have hdig : c ≤ 57 → dv c = c - 48 := dv_dig
      generalize dv c = D at hdec hd15 hlow hdig
      by_cases hcut : 1152921504606846976 ≤ acc
      · rw [if_pos hcut] at hdec
        have HDec := Aside0.mk hdec
        have icut : 1152921504606846976 ≤ a := by omega
        by_cases h57 : c ≤ 57
        · clear hcut hacc hdec ha hlow hdig hx
          go_wp2
          go_ret2
          exact ⟨by rw [HDec.out]; rfl, rfl⟩
        · obtain ⟨hl1, hl2, hl3⟩ := hlow h57
          have HLow := Aside0.mk (fun w => Tryz.internal_strconv_lower (c : Int) w)
          generalize Go.bits .or .u8 (c : Int) 32 = x at HLow hl1 hl2 hl3
          clear hcut hacc hdec ha hlow hdig hx hl3
          go_wp2_with (go_at_call 89; refine (HLow.out _).mono ?_; rintro e w' ⟨rfl, rfl⟩)
          go_ret2
          exact ⟨by rw [HDec.out]; rfl, rfl⟩
      · rw [if_neg hcut] at hdec
        have icut : a < 1152921504606846976 := by omega
        by_cases h57 : c ≤ 57
        · have hD : D = c - 48 := hdig h57
          by_cases hov : 18446744073709551616 ≤ acc * 16 + D
          · omega
          · rw [if_neg hov] at hdec
            have HN := Aside0.mk (show a * 16 + ((c : Int) - 48) = ((acc * 16 + D : Nat) : Int) ∧ acc * 16 + D < 18446744073709551616 ∧ pu16 0 bs = pu16 (acc * 16 + D) (bs.drop (k + 1)) from ⟨by omega, by omega, hdec⟩)
            have iov : a * 16 + ((c : Int) - 48) < 18446744073709551616 := by omega
            clear hcut hacc hdec ha hlow hdig hx hD hov hd15
            go_wp2
            refine ⟨⟨k + 1, acc * 16 + D, a * 16 + ((c : Int) - 48), rfl, (by first | rfl | (congr 1; omega)), (by first | rfl | (congr 1; omega)), by omega, HN⟩, by simp [intOf]; omega⟩
        · obtain ⟨hl1, hl2, hl3⟩ := hlow h57
          have HLow := Aside0.mk (fun w => Tryz.internal_strconv_lower (c : Int) w)
          generalize Go.bits .or .u8 (c : Int) 32 = x at HLow hl1 hl2 hl3
          by_cases hov : 18446744073709551616 ≤ acc * 16 + D
          · omega
          · rw [if_neg hov] at hdec
            have HN := Aside0.mk (show a * 16 + (x - 97 + 10) = ((acc * 16 + D : Nat) : Int) ∧ acc * 16 + D < 18446744073709551616 ∧ pu16 0 bs = pu16 (acc * 16 + D) (bs.drop (k + 1)) from ⟨by omega, by omega, hdec⟩)
            have iov : a * 16 + (x - 97 + 10) < 18446744073709551616 := by omega
            clear hcut hacc hdec ha hlow hdig hx hl3 hov hd15
            go_wp2_with (go_at_call 89; refine (HLow.out _).mono ?_; rintro e w' ⟨rfl, rfl⟩)
            refine ⟨⟨k + 1, acc * 16 + D, a * 16 + (x - 97 + 10), rfl, (by first | rfl | (congr 1; omega)), (by first | rfl | (congr 1; omega)), by omega, HN⟩, by simp [intOf]; omega⟩
    · have hkk : k = t.size := by omega
      subst hkk
      have hF : pu16 acc (bs.drop t.size) = some acc := by rw [List.drop_eq_nil_of_le (by have := HLn.out; omega)]; rfl
      rw [hF] at hdec
      have HDec := Aside0.mk hdec
      have HA := Aside0.mk ha
      clear hacc hF hdec ha
      go_wp2
      go_ret2
      exact ⟨by rw [HDec.out, pres, ← HA.out]; rfl, rfl⟩

theorem valN_dig : ∀ (l : List UInt8) (acc : Nat), (∀ c ∈ l, digB c.toNat = true) → acc < 18446744073709551616 →
    Lib.parseUintM 18446744073709551615 acc l = if valN 10 acc l < 18446744073709551616 then .ok (valN 10 acc l) else .range
  | [], acc, _, ha => by
    show Lib.NumEnd.ok acc = if acc < 18446744073709551616 then Lib.NumEnd.ok acc else .range
    rw [if_pos ha]
  | c :: l, acc, h, ha => by
    have hc : 48 ≤ c.toNat ∧ c.toNat ≤ 57 := of_decide_eq_true (h c (by simp))
    have hm := valN_le 10 (by decide) l (acc * 10 + dv c.toNat)
    have ih := valN_dig l (acc * 10 + dv c.toNat) (fun x hx => h x (by simp [hx]))
    have hd : dv c.toNat = c.toNat - 48 := dv_dig hc.2
    have h0 : acc * 10 ≤ acc * 10 + dv c.toNat := by omega
    rw [valN_step]
    unfold Lib.parseUintM
    rw [if_pos hc, ← hd]
    generalize acc * 10 + dv c.toNat = A at *
    by_cases h1 : 1844674407370955162 ≤ acc
    · rw [if_pos h1, if_neg (by omega)]
    · rw [if_neg h1]
      by_cases h2 : 18446744073709551615 < A
      · rw [if_pos h2, if_neg (by omega)]
      · rw [if_neg h2]
        exact ih (by omega)

/-- What package-level variables the lexer leans on. -/
structure Laid (w : World) : Prop where
  tab : Lib.TabIs Tryz.prog w "strings.asciiSpace" .u8 Lib.asciiSpaceTab
  err : ∃ ev, w.cell? ⟨5, 0, none⟩ = some ev ∧ (ev = .nilIface ∨ ∃ te pe, ev = .iface te pe)

theorem var_keep {w w' : World} {n : String} {g : Nat} (hn : Tryz.prog.globalNamed n = some g) (h : w'.heap[g]? = w.heap[g]?) : w'.var? Tryz.prog n = w.var? Tryz.prog n := by
  unfold World.var?
  rw [hn]
  simp only [Option.bind_some, h]
theorem Laid.keep {w w' : World} (h : Laid w) (h1 : w'.heap[2]? = w.heap[2]?) (h2 : w'.heap[5]? = w.heap[5]?) : Laid w' := by
  refine ⟨?_, ?_⟩
  · unfold Lib.TabIs
    rw [var_keep (g := 2) (by kernel_rfl) h1]
    exact h.tab
  · obtain ⟨ev, he, h3⟩ := h.err
    exact ⟨ev, (World.cell?_of_block (w := w) h2).trans he, h3⟩

/-- Behind 'ParseUint': the number, or an error. -/
def PU (v : Nat) (w : World) (e : Ending) (w' : World) : Prop :=
  Below w.heap.size w w' ∧ ((v < 18446744073709551616 ∧ e = .returned (.tuple #[.int .u64 v, .nilIface])) ∨ (18446744073709551616 ≤ v ∧ ∃ n x, e = .returned (.tuple #[.int .u64 n, .iface 158 x])))

theorem bytes_below (w : World) (e : TypeId) (s : ByteArray) : Below w.heap.size w (Lib.bytesWorld w e s) :=
  ⟨rfl, rfl, rfl, by rw [Lib.bytesWorld_size]; omega, fun k hk => Lib.bytesWorld_at_old w e s k hk⟩

set_option maxHeartbeats 3200000 in
set_option maxRecDepth 100000 in
theorem parse_of (t : ByteArray) (hmax : t.size ≤ 20000) (base : Int) (v : Nat) (w : World) (hL : Laid w)
    (hi : Calls Tryz.prog 78 #[.string t, .int .i64 base, .int .i64 64] w fun e w' => e = .returned (if v < 18446744073709551616 then .tuple #[.int .u64 v, .nilIface] else .tuple #[.int .u64 18446744073709551615, .iface 156 (.int .i64 1)]) ∧ Below w.heap.size w w') :
    Calls Tryz.prog 64 #[.string t, .int .i64 base, .int .i64 64] w (PU v w) := by
  by_cases hv : v < 18446744073709551616
  · rw [if_pos hv] at hi
    have HI := Aside0.mk hi
    have HV := Aside0.mk hv
    clear hi hL hv
    go_enter Tryz.func64, Tryz.ntmps64
    go_wp2_with (go_at_call 78; refine HI.out.mono ?_; rintro e w' ⟨rfl, hb⟩; have HB := Aside0.mk hb; clear hb)
    go_ret2
    exact ⟨HB.out, .inl ⟨HV.out, rfl⟩⟩
  · rw [if_neg hv] at hi
    have HI := Aside0.mk hi
    have HV := Aside0.mk (show 18446744073709551616 ≤ v by omega)
    have HL := Aside0.mk hL
    clear hi hL hv
    go_enter Tryz.func64, Tryz.ntmps64
    go_wp2_with fail
    refine HI.out.mono ?_
    rintro e w1 ⟨rfl, hb⟩
    have HB := Aside0.mk hb
    obtain ⟨ev, he, h3⟩ := HL.out.err
    have he1 := pw_cell_below hb he
    have HT := Aside0.mk (fun base bits => Tryz.strconv_toError_range ⟨#[80, 97, 114, 115, 101, 85, 105, 110, 116]⟩ t base bits ev w1 (by omega) he1 h3)
    clear hb he h3 he1
    go_wp2_with fail
    refine (HT.out _ _).mono ?_
    rintro e w2 ⟨N, rfl, _, _, hb2⟩
    have HB2 := Aside0.mk (below_step HB.out hb2)
    clear hb2
    go_wp2
    go_ret2
    exact ⟨HB2.out, .inr ⟨HV.out, _, _, rfl⟩⟩

theorem parse16 (t : ByteArray) (hne : t.size ≠ 0) (hmax : t.size ≤ 20000) (hd : ∀ c ∈ t.data.toList, hexB c.toNat = true) (w : World) (hL : Laid w) :
    Calls Tryz.prog 64 #[.string t, .int .i64 16, .int .i64 64] w (PU (valN 16 0 t.data.toList) w) := by
  refine parse_of t hmax 16 _ w hL ((iparse16 t hne hmax hd w).mono ?_)
  rintro e w' ⟨rfl, rfl⟩
  refine ⟨?_, bytes_below w _ t⟩
  cases hp : pu16 0 t.data.toList with
  | some v =>
    obtain ⟨h1, h2⟩ := pu16_some _ 0 v (by omega) hp
    rw [← h1, if_pos h2]; rfl
  | none =>
    have := pu16_none _ 0 hp
    rw [if_neg (by omega)]; rfl

theorem parse10 (t : ByteArray) (hne : t.size ≠ 0) (hmax : t.size ≤ 20000) (hd : ∀ c ∈ t.data.toList, digB c.toNat = true) (w : World) (hL : Laid w) :
    Calls Tryz.prog 64 #[.string t, .int .i64 10, .int .i64 64] w (PU (valN 10 0 t.data.toList) w) := by
  have hnl : t.data.toList ≠ [] := fun h => hne (by rw [Lib.size_eq, h]; rfl)
  have hp : Lib.parseUintB 64 t.data.toList = if valN 10 0 t.data.toList < 18446744073709551616 then .ok (valN 10 0 t.data.toList) else .range := by
    rw [Lib.parseUintB, if_neg hnl, show (2 ^ 64 - 1 : Nat) = 18446744073709551615 from by decide]
    exact valN_dig _ 0 hd (by omega)
  by_cases hv : valN 10 0 t.data.toList < 18446744073709551616
  · rw [if_pos hv] at hp
    refine (Tryz.strconv_ParseUint_10_at64_ok t (by omega) _ hp w).mono ?_
    rintro e w' ⟨rfl, h | h⟩
    · exact ⟨by rw [h]; exact Below.refl _ _, .inl ⟨hv, rfl⟩⟩
    · exact ⟨by rw [h]; exact bytes_below w _ t, .inl ⟨hv, rfl⟩⟩
  · rw [if_neg hv] at hp
    obtain ⟨ev, he, h3⟩ := hL.err
    refine (Tryz.strconv_ParseUint_10_at64_range t (by omega) hp ev w he h3).mono ?_
    rintro e w' ⟨N, rfl, _, _, hb⟩
    exact ⟨hb, .inr ⟨by omega, _, _, rfl⟩⟩

end Go.Proofs.YtdlfjokhgmngcaaGreatDoor.Lx
