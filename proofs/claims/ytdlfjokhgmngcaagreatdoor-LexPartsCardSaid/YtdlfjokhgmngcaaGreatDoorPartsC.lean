/- LexParts: what the walk is told of the three texts; the walk. -/
import Derived.Test.YtdlfjokhgmngcaaGreatDoorPartsB
import Derived.Test.YtdlfjokhgmngcaaGreatDoorLexLaw
namespace Go.Proofs.YtdlfjokhgmngcaaGreatDoor.Lx
open Go.RowKit Go.Shelf Go.Proofs.YtdlfjokhgmngcaaGreatDoorW.PrintWords Go.Proofs.YtdlfjokhgmngcaaGreatDoorW.PrintLast Go.Proofs.YtdlfjokhgmngcaaGreatDoorW.PrintMore Go.Proofs.YtdlfjokhgmngcaaGreatDoor.PLexTells
set_option linter.unusedVariables false
set_option linter.unusedSimpArgs false

theorem wrp {i : Int} (h0 : -1000000000000000 ≤ i) (h1 : i ≤ 1000000000000000) : wrap64 i = i := by unfold wrap64; omega

/-- Where a fault lies. -/
theorem oneL_bad {R : List UInt8} {c : Int} {o : Nat} (h : oneL R = .bad c o) : o ≤ R.length := by
  cases R with
  | nil => simp [oneL] at h; omega
  | cons x r =>
    simp only [oneL] at h
    by_cases h2 : hasS (x.toNat : Int) 2 = true
    · rw [if_pos h2] at h
      by_cases h16 : 16 < whileN 6 (x :: r)
      · rw [if_pos h16] at h; cases h; exact Nat.zero_le _
      · rw [if_neg h16] at h; cases h
    · rw [if_neg h2] at h
      by_cases h4 : hasS (x.toNat : Int) 4 = true
      · rw [if_pos h4] at h
        by_cases e1 : nDig (x :: r) = 0
        · rw [if_pos e1] at h; cases h; exact nLen_le _
        · rw [if_neg e1] at h
          by_cases e2 : 4294967296 ≤ nVal (x :: r)
          · rw [if_pos e2] at h; cases h; exact Nat.zero_le _
          · rw [if_neg e2] at h
            by_cases e3 : nTail (x :: r) = true
            · rw [if_pos e3] at h; cases h; exact nLen_le _
            · rw [if_neg e3] at h; cases h
      · rw [if_neg h4] at h
        by_cases h8 : hasS (x.toNat : Int) 8 = true
        · rw [if_pos h8] at h; cases h
        · rw [if_neg h8] at h; cases h; exact Nat.zero_le _
theorem lexA_fault : ∀ (n : Nat) (R : List UInt8) (p l : Nat) (cp : Int × Int), R.length ≤ n → (lexA R p l).2 = some cp → 0 ≤ cp.2 ∧ cp.2 ≤ ((p + R.length : Nat) : Int) := by
  intro n
  induction n with
  | zero =>
    intro R p l cp hn h
    obtain rfl := List.length_eq_zero_iff.1 (show R.length = 0 by omega)
    rw [lexA_end] at h; cases h
  | succ n ih =>
    intro R p l cp hn h
    by_cases hR : R = []
    · subst hR; rw [lexA_end] at h; cases h
    · cases ho : oneL R with
      | bad c o =>
        rw [lexA_bad hR ho] at h
        cases h
        have := oneL_bad ho
        dsimp only
        omega
      | tok k m nn =>
        obtain ⟨hp, hle⟩ := oneL_pos ho
        rw [lexA_tok ho] at h
        have := ih _ _ _ cp (by rw [List.length_drop, List.length_drop]; omega) h
        rw [List.length_drop, List.length_drop] at this
        have hj := skipN_le false (R.drop m)
        rw [List.length_drop] at hj
        omega
theorem lexF_fault {s : ByteArray} (hs : s.size ≤ 20000) {c p : Int} (h : lexF s = some (c, p)) : 0 ≤ p ∧ p ≤ (s.size : Int) := by
  rw [lexF, if_neg (by omega), lexL_A] at h
  have := lexA_fault _ _ _ _ _ (Nat.le_refl _) h
  rw [List.length_drop] at this
  have e : s.data.toList.length = s.size := rfl
  have hj := skipN_le false s.data.toList
  dsimp only at this
  omega
theorem tok_bounds {s : ByteArray} {i : Nat} {x : Tok} (h : (lexT s)[i]? = some x) : 0 ≤ x.a ∧ x.a ≤ (s.size : Int) ∧ 0 ≤ x.l ∧ x.l ≤ (s.size : Int) + 1 := by
  cases hF : lexF s with
  | some cp =>
    exfalso
    have : lexT s = [] := by
      unfold lexF at hF
      unfold lexT
      split
      · rfl
      · rename_i h2
        rw [if_neg h2] at hF
        rw [hF]
    rw [this] at h
    simp at h
  | none =>
    obtain ⟨q, h1, _, h3, _, _, h6⟩ := ((covers_at hF i x h).1).a
    have e : s.data.toList.length = s.size := rfl
    have hn : nls (s.data.toList.take q) ≤ (s.data.toList.take q).length := List.count_le_length
    rw [List.length_take] at hn
    omega

theorem app_list (a b : ByteArray) : (a ++ b).data.toList = a.data.toList ++ b.data.toList := by simp

structure PartsF (A B : ByteArray) : Prop where
  bad : ∀ cp, lexF A = some cp → lexF (A ++ B) = some cp
  err : lexF A = none → lexF (A ++ B) = (lexF B).map fun c : Int × Int => (c.1, c.2 + (A.size : Int))
  toks : lexF A = none → lexF B = none → ∃ T e, lexT A = T ++ [e] ∧ lexT (A ++ B) = T ++ (lexT B).map (Tok.move A.size (nls A.data.toList))

theorem parts_of (s B : ByteArray) (h1 : s.size ≤ 1920) (h2 : B.size ≤ 1920) : PartsF (s ++ ⟨#[10]⟩) B := by
  have eA : (s ++ ⟨#[10]⟩ : ByteArray).data.toList = s.data.toList ++ [10] := app_list _ _
  have eC : (s ++ ⟨#[10]⟩ ++ B : ByteArray).data.toList = s.data.toList ++ 10 :: B.data.toList := by rw [app_list, eA]; simp
  have zA : (s ++ ⟨#[10]⟩ : ByteArray).size = s.size + 1 := by
    have := congrArg List.length eA
    rw [List.length_append] at this
    exact this
  have zC : (s ++ ⟨#[10]⟩ ++ B : ByteArray).size = s.size + 1 + B.size := by
    have := congrArg List.length eC
    rw [List.length_append, List.length_cons] at this
    have e1 : (s ++ ⟨#[10]⟩ ++ B : ByteArray).data.toList.length = (s ++ ⟨#[10]⟩ ++ B : ByteArray).size := rfl
    have e2 : s.data.toList.length = s.size := rfl
    have e3 : B.data.toList.length = B.size := rfl
    omega
  obtain ⟨a1, a2⟩ := lexL_app s.data.toList B.data.toList
  rw [← eA, ← eC] at a1 a2
  have fF : ∀ x : ByteArray, x.size ≤ 20000 → lexF x = (lexL x.data.toList).2 := fun x hx => by rw [lexF, if_neg (by omega)]
  have fT : ∀ x : ByteArray, x.size ≤ 20000 → (lexL x.data.toList).2 = none → lexT x = (lexL x.data.toList).1 := fun x hx h => by rw [lexT, if_neg (by omega), h]
  refine ⟨fun cp h => ?_, fun h => ?_, fun h k => ?_⟩
  · rw [fF _ (by omega)] at h ⊢
    exact a1 cp h
  · rw [fF _ (by omega)] at h
    obtain ⟨T, e, h3, h4⟩ := a2 h
    rw [fF _ (by omega), fF _ (by omega), h4, zA]
    rfl
  · rw [fF _ (by omega)] at h
    rw [fF _ (by omega)] at k
    obtain ⟨T, e, h3, h4⟩ := a2 h
    refine ⟨T, e, ?_, ?_⟩
    · rw [fT _ (by omega) h, h3]
    · have hn : (lexL (s ++ ⟨#[10]⟩ ++ B : ByteArray).data.toList).2 = none := by rw [h4, k]; rfl
      rw [fT _ (by omega) hn, fT _ (by omega) k, h4, zA, eA]
      rfl

set_option maxRecDepth 100000 in
set_option maxHeartbeats 6400000 in
theorem parts_any (a : Option Addr) (c : Nat) (l : List UInt8) (b : Option Addr) (d : Nat) (m : List UInt8) (w : World) (ha : BytesAt w a l) (hl : l.length ≤ 9223372036854775807) (hb : BytesAt w b m) (hm : m.length ≤ 9223372036854775807) (hL : Laid w) (hE : LaidE w) (hlow : 8 < w.heap.size) :
    Calls Tryz.prog 4 #[.slice a l.length c, .slice b m.length d] w fun e w' => e = .returned (.bool true) ∧ Below w.heap.size w w' := by
  have HLd := Aside0.mk hL
  have HE := Aside0.mk hE
  have HA := Aside0.mk ha
  have HBb := Aside0.mk hb
  have HW := Aside0.mk (works_any w hL hE hlow)
  have szm : ∀ l : List UInt8, (⟨(madeL l).toArray⟩ : ByteArray).size ≤ 1920 := by
    intro l
    show (madeL l).toArray.size ≤ 1920
    have := madeL_len l 120 (by omega)
    have e : madeL (l.take 120) = madeL l := by unfold madeL; rw [List.take_take, Nat.min_self]
    rw [e] at this
    simpa using this
  have HSZ := Aside0.mk szm
  clear hL hE ha hb szm
  go_enter Tryz.func4, Tryz.ntmps4
  go_wp2_with fail
  refine HW.out.mono ?_
  rintro e w1 ⟨rfl, hb1⟩
  have hs1 := hb1.size
  have HB1 := Aside0.mk hb1
  clear hb1 HW
  go_wp2_with fail
  refine (made_B a c l w1 (HA.out.keep HB1.out (Nat.le_refl _)) hl).mono ?_
  rintro e w2 ⟨rfl, hb2⟩
  have HB2 := Aside0.mk (HB1.out.trans (hb2.mono HB1.out.size))
  have hs2 := hb2.size
  clear hb2
  have hsa := HSZ.out l
  generalize (⟨(madeL l).toArray⟩ : ByteArray) = s at *
  go_wp2_with fail
  refine (made_B b d m w2 (HBb.out.keep HB2.out (Nat.le_refl _)) hm).mono ?_
  rintro e w3 ⟨rfl, hb3⟩
  have HB3 := Aside0.mk (HB2.out.trans (hb3.mono HB2.out.size))
  have hs3 := hb3.size
  clear hb3
  have hsb := HSZ.out m
  generalize (⟨(madeL m).toArray⟩ : ByteArray) = B at *
  have hzA : (s ++ ⟨#[10]⟩ : ByteArray).size ≤ 1921 := by
    have := congrArg List.length (app_list s ⟨#[10]⟩)
    rw [List.length_append] at this
    have e1 : (s ++ ⟨#[10]⟩ : ByteArray).data.toList.length = (s ++ ⟨#[10]⟩ : ByteArray).size := rfl
    have e2 : s.data.toList.length = s.size := rfl
    have e3 : (⟨#[10]⟩ : ByteArray).data.toList.length = 1 := rfl
    omega
  have HP := Aside0.mk (parts_of s B hsa hsb)
  generalize (s ++ ⟨#[10]⟩ : ByteArray) = A at *
  have hzC : (A ++ B : ByteArray).size ≤ 3841 := by
    have := congrArg List.length (app_list A B)
    rw [List.length_append] at this
    have e1 : (A ++ B : ByteArray).data.toList.length = (A ++ B : ByteArray).size := rfl
    have e2 : A.data.toList.length = A.size := rfl
    have e3 : B.data.toList.length = B.size := rfl
    omega
  have HZC := Aside0.mk hzC
  clear hzC
  go_wp2_with fail
  refine (Lex_V A w3 (by omega) (HLd.out.keep (HB3.out.block _ (by omega)) (HB3.out.block _ (by omega))) (by omega)).mono ?_
  rintro e w4 ⟨a4, c4, u4, rfl, hv4⟩
  have HV4 := Aside0.mk hv4
  have HB4 := Aside0.mk (HB3.out.trans (hv4.below.mono HB3.out.size))
  have hs4 := hv4.below.size
  clear hv4
  go_wp2_with fail
  refine (Lex_V B w4 (by omega) (HLd.out.keep (HB4.out.block _ (by omega)) (HB4.out.block _ (by omega))) (by omega)).mono ?_
  rintro e w5 ⟨a5, c5, u5, rfl, hv5⟩
  have HV5 := Aside0.mk hv5
  have HB5 := Aside0.mk (HB4.out.trans (hv5.below.mono HB4.out.size))
  have hs5 := hv5.below.size
  clear hv5
  go_wp2_with fail
  refine (Lex_V (A ++ B) w5 (by have := HZC.out; omega) (HLd.out.keep (HB5.out.block _ (by omega)) (HB5.out.block _ (by omega))) (by omega)).mono ?_
  rintro e w6 ⟨a6, c6, u6, rfl, hv6⟩
  have HV6 := Aside0.mk hv6
  have HB6 := Aside0.mk (HB5.out.trans (hv6.below.mono HB5.out.size))
  have hs6 := hv6.below.size
  have HB56 := Aside0.mk hv6.below
  have HB46 := Aside0.mk (HV5.out.below.trans (hv6.below.mono hs5))
  clear hv6
  have HE6 := Aside0.mk (HE.out.keep HB6.out)
  have HEA := Aside0.mk HV4.out.err
  have HEB := Aside0.mk HV5.out.err
  have HEC := Aside0.mk HV6.out.err
  cases hFA : lexF A with
  | some cp =>
    obtain ⟨cc, pp⟩ := cp
    have hFC := HP.out.bad _ hFA
    have hbd := lexF_fault (by omega) hFA
    rw [hFA] at HEA
    rw [hFC] at HEC
    have h1 := HEA.out
    have h2 := HEC.out
    dsimp only at h1 h2
    obtain ⟨gf, rfl, hgf⟩ := h1
    obtain ⟨gg, rfl, hgg⟩ := h2
    have HF6 := Aside0.mk ((HB46.out.block gf (blk_lt hgf)).trans hgf)
    have HG6 := Aside0.mk hgg
    have hwr : wrap64 (pp + 0) = pp := by rw [wrp (by omega) (by omega)]; omega
    have HWr := Aside0.mk hwr
    clear HEA HEC hFA hFC hgf hgg hwr hbd
    go_wp2_with fail
    refine (same_hit gf gg cc pp pp 0 w6 HE6.out HF6.out HG6.out HWr.out).mono ?_
    rintro e w7 ⟨rfl, hb7⟩
    go_wp2
    go_ret
    exact ⟨rfl, HB6.out.trans (hb7.mono HB6.out.size)⟩
  | none =>
    have hFC := HP.out.err hFA
    cases hFB : lexF B with
    | some cp =>
      obtain ⟨cc, pp⟩ := cp
      rw [hFB] at hFC
      have hbd := lexF_fault (by omega) hFB
      rw [hFA] at HEA
      rw [hFB] at HEB
      rw [hFC] at HEC
      have h0 := HEA.out
      have h1 := HEB.out
      have h2 := HEC.out
      dsimp only [Option.map_some] at h0 h1 h2
      subst h0
      obtain ⟨gf, rfl, hgf⟩ := h1
      obtain ⟨gg, rfl, hgg⟩ := h2
      have HF6 := Aside0.mk ((HB56.out.block gf (blk_lt hgf)).trans hgf)
      have HG6 := Aside0.mk hgg
      have hwr : wrap64 (pp + (A.size : Int)) = pp + (A.size : Int) := wrp (by omega) (by omega)
      have HWr := Aside0.mk hwr
      clear HEA HEB HEC hFA hFB hFC hgf hgg hwr hbd
      go_wp2_with fail
      refine (same_hit gf gg cc pp (pp + (A.size : Int)) (A.size : Int) w6 HE6.out HF6.out HG6.out HWr.out).mono ?_
      rintro e w7 ⟨rfl, hb7⟩
      go_wp2
      go_ret
      exact ⟨rfl, HB6.out.trans (hb7.mono HB6.out.size)⟩
    | none =>
      rw [hFB] at hFC
      obtain ⟨T, en, hTA, hTC⟩ := HP.out.toks hFA hFB
      rw [hFA] at HEA
      rw [hFB] at HEB
      rw [hFC] at HEC
      have h0 := HEA.out
      have h1 := HEB.out
      have h2 := HEC.out
      dsimp only [Option.map_none] at h0 h1 h2
      subst h0 h1 h2
      have HRx := Aside0.mk (RowV.keep HV4.out.row HB46.out (Nat.le_refl _))
      have HRy := Aside0.mk (RowV.keep HV5.out.row HB56.out (Nat.le_refl _))
      have HRc := Aside0.mk HV6.out.row
      have hlx : (lexT A).length = T.length + 1 := by rw [hTA]; simp
      have hlc : (lexT (A ++ B)).length = T.length + (lexT B).length := by rw [hTC]; simp
      have hlb := lexT_len B
      have hlt := lexT_len A
      have HBy := Aside0.mk (fun i x (h : (lexT B)[i]? = some x) => tok_bounds h)
      rw [hTA] at HRx
      rw [hTC] at HRc
      rw [hlx] at hlt ⊢
      rw [hlc]
      clear HEA HEB HEC hFA hFB hFC hTA hTC hlx hlc HP HV4 HV5 HV6
      generalize lexT B = Y at *
      go_wp2_with fail
      go_loopw [13] (fun v W => ∃ k : Nat, k ≤ T.length + Y.length ∧ v = .int .i64 k ∧ Aside0 (Below w6.heap.size w6 W)) (fun v _ => T.length + Y.length - (intOf v).toNat)
      case atStart => exact ⟨0, by omega, rfl, ⟨Below.refl _ _⟩⟩
      case round =>
        obtain ⟨k, hk, rfl, HBr⟩ := hrel
        by_cases hlt2 : k < T.length + Y.length
        · obtain ⟨gc, rfl, hgc, rowc⟩ := RowV.get (RowV.keep HRc.out HBr.out (Nat.le_refl _)) (k := k) (by simp; omega)
          have HGc := Aside0.mk rowc
          have hgcl := rowc.lt
          clear rowc
          by_cases hkt : k < T.length
          · obtain ⟨x, hx⟩ : ∃ x, T[k]? = some x := ⟨_, List.getElem?_eq_getElem hkt⟩
            obtain ⟨gx, rfl, hgx, rowx⟩ := RowV.get (RowV.keep HRx.out HBr.out (Nat.le_refl _)) (k := k) (by simp; omega)
            have hgxl := rowx.lt
            obtain ⟨y0, y1, y2, y3, y4⟩ := HGc.out.cell k x (by rw [List.getElem?_append_left hkt]; exact hx)
            obtain ⟨x0, x1, x2, x3, x4⟩ := rowx.cell k x (by rw [List.getElem?_append_left hkt]; exact hx)
            clear rowx hx
            obtain ⟨kk, aa, ll, tt, nn⟩ := x
            dsimp only at y0 y1 y2 y3 y4 x0 x1 x2 x3 x4
            go_wp2
            have HBW := Aside0.mk (show Below wr.heap.size wr (wr.alloc (.cells #[.int .i64 kk, .int .i64 aa, .int .i64 ll, .string tt, .int .i64 nn] 31)) from (Below.refl _ wr).alloc (Nat.le_refl _) _)
            have HBK := Aside0.mk (blk_new wr (.cells #[.int .i64 kk, .int .i64 aa, .int .i64 ll, .string tt, .int .i64 nn] 31))
            generalize wr.alloc (.cells #[.int .i64 kk, .int .i64 aa, .int .i64 ll, .string tt, .int .i64 nn] 31) = V at *
            have hbwl : wr.heap.size = wr.heap.size := rfl
            generalize hbw : wr.heap.size = bw at *
            have HBw := Aside0.mk hbw
            clear hbw hbwl
            have v0 := (HBW.out.cell (p := ⟨gc, k * 5, none⟩) hgcl).trans y0
            have v1 := (HBW.out.cell (p := ⟨gc, k * 5 + 1, none⟩) hgcl).trans y1
            have v2 := (HBW.out.cell (p := ⟨gc, k * 5 + 2, none⟩) hgcl).trans y2
            have v3 := (HBW.out.cell (p := ⟨gc, k * 5 + 3, none⟩) hgcl).trans y3
            have v4 := (HBW.out.cell (p := ⟨gc, k * 5 + 4, none⟩) hgcl).trans y4
            have z0 : V.cell? ⟨bw, 0, none⟩ = some (.int .i64 kk) := blk_cell HBK.out 0
            have z1 : V.cell? ⟨bw, 1, none⟩ = some (.int .i64 aa) := blk_cell HBK.out 1
            have z2 : V.cell? ⟨bw, 2, none⟩ = some (.int .i64 ll) := blk_cell HBK.out 2
            have z3 : V.cell? ⟨bw, 3, none⟩ = some (.string tt) := blk_cell HBK.out 3
            have z4 : V.cell? ⟨bw, 4, none⟩ = some (.int .i64 nn) := blk_cell HBK.out 4
            have HBV := Aside0.mk (HBr.out.trans (HBW.out.mono (by have := HBr.out.size; have := HBw.out; omega)))
            clear y0 y1 y2 y3 y4 x0 x1 x2 x3 x4
            refine start_ (n := 6) (S := fun w' => w'.cell? ⟨gc, k * 5, none⟩ = some (.int .i64 kk) ∧ w'.cell? ⟨gc, k * 5 + 1, none⟩ = some (.int .i64 aa) ∧ w'.cell? ⟨gc, k * 5 + 2, none⟩ = some (.int .i64 ll) ∧ w'.cell? ⟨gc, k * 5 + 3, none⟩ = some (.string tt) ∧ w'.cell? ⟨gc, k * 5 + 4, none⟩ = some (.int .i64 nn) ∧ w'.cell? ⟨bw, 0, none⟩ = some (.int .i64 kk) ∧ w'.cell? ⟨bw, 1, none⟩ = some (.int .i64 aa) ∧ w'.cell? ⟨bw, 2, none⟩ = some (.int .i64 ll) ∧ w'.cell? ⟨bw, 3, none⟩ = some (.string tt) ∧ w'.cell? ⟨bw, 4, none⟩ = some (.int .i64 nn)) (ds := []) #[false, false, false, false, false, false] (by kernel_rfl) rfl rfl ⟨v0, v1, v2, v3, v4, z0, z1, z2, z3, z4⟩ (fun hHeld => ?_)
            refine pure_ (i := 0) (N := some 113) (v := ?_) (a' := ?_) #[true, false, false, false, false, false] rfl rfl (by kernel_rfl) (fun _ _ _ h => h) (Or.inl ⟨by rfl, ?_⟩) ?_ ?_
            rotate_left
            · intro w'
              go_simp
              with_reducible rfl
            rotate_left
            · simp only [Act.put, List.setIfInBounds_toArray, List.set_cons_zero, List.set_cons_succ, i64_w, i32_w]
              rfl
            refine pure_ (i := 1) (N := some 114) (v := ?_) (a' := ?_) #[true, true, false, false, false, false] rfl rfl (by kernel_rfl) (fun _ _ _ h => h) (Or.inl ⟨by rfl, ?_⟩) ?_ ?_
            rotate_left
            · intro w'
              go_simp
              with_reducible rfl
            rotate_left
            · simp only [Act.put, List.setIfInBounds_toArray, List.set_cons_zero, List.set_cons_succ, i64_w, i32_w]
              rfl
            refine pure_ (i := 2) (N := some 115) (v := ?_) (a' := ?_) #[true, true, true, false, false, false] rfl rfl (by kernel_rfl) (fun _ _ _ h => h) (Or.inl ⟨by rfl, ?_⟩) ?_ ?_
            rotate_left
            · intro w'
              go_simp
              with_reducible rfl
            rotate_left
            · simp only [Act.put, List.setIfInBounds_toArray, List.set_cons_zero, List.set_cons_succ, i64_w, i32_w]
              rfl
            refine take_ (i := 3) (N := some 116) (v := ?_) (a' := ?_) #[true, true, true, true, false, false] rfl rfl (by kernel_rfl) (fun _ _ _ h => h) (Or.inl ⟨by rfl, ?_⟩) hHeld ?_ ?_
            rotate_left
            · rintro w' ⟨s0, s1, s2, s3, s4, s5, s6, s7, s8, s9⟩
              go_simp
              with_reducible rfl
            rotate_left
            · simp only [Act.put, List.setIfInBounds_toArray, List.set_cons_zero, List.set_cons_succ, i64_w, i32_w]
              rfl
            refine take_ (i := 4) (N := some 117) (v := ?_) (a' := ?_) #[true, true, true, true, true, false] rfl rfl (by kernel_rfl) (fun _ _ _ h => h) (Or.inl ⟨by rfl, ?_⟩) hHeld ?_ ?_
            rotate_left
            · rintro w' ⟨s0, s1, s2, s3, s4, s5, s6, s7, s8, s9⟩
              go_simp
              with_reducible rfl
            rotate_left
            · simp only [Act.put, List.setIfInBounds_toArray, List.set_cons_zero, List.set_cons_succ, i64_w, i32_w]
              rfl
            refine pure_ (i := 5) (N := some 118) (v := ?_) (a' := ?_) #[true, true, true, true, true, true] rfl rfl (by kernel_rfl) (fun _ _ _ h => h) (Or.inl ⟨by rfl, ?_⟩) ?_ ?_
            rotate_left
            · intro w'
              go_simp
              with_reducible rfl
            rotate_left
            · simp only [Act.put, List.setIfInBounds_toArray, List.set_cons_zero, List.set_cons_succ, i64_w, i32_w]
              rfl
            refine done_ (by kernel_rfl) ?_
            go_wp2
            go_roundw
            case rel => exact ⟨k + 1, by omega, by go_num, ⟨Below.drew HBV.out⟩⟩
            case measure => simp [intOf]; omega
          · obtain ⟨q, rfl⟩ : ∃ q, k = T.length + q := ⟨k - T.length, by omega⟩
            have hqy : q < Y.length := by omega
            obtain ⟨x, hx⟩ : ∃ x, Y[q]? = some x := ⟨_, List.getElem?_eq_getElem hqy⟩
            obtain ⟨b0, b1, b2, b3⟩ := HBy.out q x hx
            obtain ⟨gy, rfl, hgy, rowy⟩ := RowV.get (RowV.keep HRy.out HBr.out (Nat.le_refl _)) (k := q) hqy
            have hgyl := rowy.lt
            obtain ⟨y0, y1, y2, y3, y4⟩ := HGc.out.cell (T.length + q) (x.move A.size (nls A.data.toList)) (by
              rw [List.getElem?_append_right (by omega), show T.length + q - T.length = q by omega, List.getElem?_map, hx]; rfl)
            obtain ⟨x0, x1, x2, x3, x4⟩ := rowy.cell q x hx
            clear rowy hx
            have hnA : nls A.data.toList ≤ A.size := List.count_le_length
            obtain ⟨kk, aa, ll, tt, nn⟩ := x
            dsimp only [Tok.move] at y0 y1 y2 y3 y4 x0 x1 x2 x3 x4 b0 b1 b2 b3
            generalize hnl : nls A.data.toList = nl at *
            have HNl := Aside0.mk hnl
            clear hnl
            have hidx : (T.length : Int) + (q : Int) - ((T.length : Int) + 1) + 1 = (q : Int) := by omega
            have d88 : decide ((T.length : Int) + (q : Int) < (T.length : Int)) = false := decide_eq_false (by omega)
            go_wp2
            have HBW := Aside0.mk (show Below wr.heap.size wr (wr.alloc (.cells #[.int .i64 kk, .int .i64 (aa + (A.size : Int)), .int .i64 ll, .string tt, .int .i64 nn] 31)) from (Below.refl _ wr).alloc (Nat.le_refl _) _)
            have HBK := Aside0.mk (blk_new wr (.cells #[.int .i64 kk, .int .i64 (aa + (A.size : Int)), .int .i64 ll, .string tt, .int .i64 nn] 31))
            generalize wr.alloc (.cells #[.int .i64 kk, .int .i64 (aa + (A.size : Int)), .int .i64 ll, .string tt, .int .i64 nn] 31) = V at *
            generalize hbw : wr.heap.size = bw at *
            have HBw := Aside0.mk hbw
            clear hbw
            have HCn := Aside0.mk (show ∀ W, Calls Tryz.prog 15 #[.string A, .string ⟨#[10]⟩] W fun e w' => e = .returned (.int .i64 (nl : Int)) ∧ W = w' from fun W => by rw [← HNl.out]; exact count_nl A W)
            have u0 := (HBW.out.cell (p := ⟨gc, (T.length + q) * 5, none⟩) hgcl).trans y0
            have u1 := (HBW.out.cell (p := ⟨gc, (T.length + q) * 5 + 1, none⟩) hgcl).trans y1
            have u2 := (HBW.out.cell (p := ⟨gc, (T.length + q) * 5 + 2, none⟩) hgcl).trans y2
            have u3 := (HBW.out.cell (p := ⟨gc, (T.length + q) * 5 + 3, none⟩) hgcl).trans y3
            have u4 := (HBW.out.cell (p := ⟨gc, (T.length + q) * 5 + 4, none⟩) hgcl).trans y4
            have HU := Aside0.mk (And.intro u0 (And.intro u1 (And.intro u2 (And.intro u3 u4))))
            have z2 : V.cell? ⟨bw, 2, none⟩ = some (.int .i64 ll) := blk_cell HBK.out 2
            have HBV := Aside0.mk (HBr.out.trans (HBW.out.mono (by have := HBr.out.size; have := HBw.out; omega)))
            have HGB := Aside0.mk (show gc ≠ bw from by omega)
            have HWB := Aside0.mk (show w6.heap.size ≤ bw from by have := HBr.out.size; have := HBw.out; omega)
            have hwl : wrap64 (ll + (nl : Int)) = ll + (nl : Int) := wrp (by omega) (by omega)
            clear y0 y1 y2 y3 y4 x0 x1 x2 x3 x4 u0 u1 u2 u3 u4
            refine start_ (n := 7) (S := fun w' => w'.cell? ⟨bw, 2, none⟩ = some (.int .i64 ll)) (ds := [6]) #[false, false, false, false, false, false, false] (by kernel_rfl) rfl rfl (z2) (fun hHeld => ?_)
            refine pure_ (i := 0) (N := some 107) (v := ?_) (a' := ?_) #[true, false, false, false, false, false, false] rfl rfl (by kernel_rfl) (fun _ _ _ h => h) (Or.inl ⟨by rfl, ?_⟩) ?_ ?_
            rotate_left
            · intro w'
              go_simp
              with_reducible rfl
            rotate_left
            · simp only [Act.put, List.setIfInBounds_toArray, List.set_cons_zero, List.set_cons_succ, i64_w, i32_w]
              rfl
            refine pure_ (i := 2) (N := some 109) (v := ?_) (a' := ?_) #[true, false, true, false, false, false, false] rfl rfl (by kernel_rfl) (fun _ _ _ h => h) (Or.inl ⟨by rfl, ?_⟩) ?_ ?_
            rotate_left
            · intro w'
              go_simp
              with_reducible rfl
            rotate_left
            · simp only [Act.put, List.setIfInBounds_toArray, List.set_cons_zero, List.set_cons_succ, i64_w, i32_w]
              rfl
            refine take_ (i := 1) (N := some 108) (v := ?_) (a' := ?_) #[true, true, true, false, false, false, false] rfl rfl (by kernel_rfl) (fun _ _ _ h => h) (Or.inl ⟨by rfl, ?_⟩) hHeld ?_ ?_
            rotate_left
            · intro w' s0
              go_simp
              with_reducible rfl
            rotate_left
            · simp only [Act.put, List.setIfInBounds_toArray, List.set_cons_zero, List.set_cons_succ, i64_w, i32_w]
              rfl
            refine one_ (i := 3) (N := some 110) #[true, true, true, true, false, false, false] rfl rfl (by kernel_rfl) (by decide) (fun K hK => ?_)
            refine goes_ Tryz.func15 (by kernel_rfl) rfl #[.string A, .string ⟨#[10]⟩] (by rfl) rfl rfl (by simp only [List.map_toArray, List.map_cons, List.map_nil]; rfl) ?_
            with_reducible refine (HCn.out _).mono ?_
            rintro e w9 ⟨rfl, rfl⟩
            refine ⟨_, rfl, ?_⟩
            refine hK.out _ _ (hHeld) (fun hHeld => ?_)
            clear hK K
            refine norm_ (a' := ?_) ?_ ?_
            rotate_left
            · show Act.put _ (some 110) _ = _
              simp only [Act.put, List.setIfInBounds_toArray, List.set_cons_zero, List.set_cons_succ, i64_w, i32_w]
              rfl
            refine pure_ (i := 4) (N := some 111) (v := ?_) (a' := ?_) #[true, true, true, true, true, false, false] rfl rfl (by kernel_rfl) (fun _ _ _ h => h) (Or.inl ⟨by rfl, ?_⟩) ?_ ?_
            rotate_left
            · intro w'
              go_simp
              with_reducible rfl
            rotate_left
            · simp only [Act.put, List.setIfInBounds_toArray, List.set_cons_zero, List.set_cons_succ, i64_w, i32_w]
              rfl
            refine pure_ (i := 5) (N := some 112) (v := ?_) (a' := ?_) #[true, true, true, true, true, true, false] rfl rfl (by kernel_rfl) (fun _ _ _ h => h) (Or.inl ⟨by rfl, ?_⟩) ?_ ?_
            rotate_left
            · intro w'
              go_simp
              with_reducible rfl
            rotate_left
            · simp only [Act.put, List.setIfInBounds_toArray, List.set_cons_zero, List.set_cons_succ, i64_w, i32_w]
              rfl
            refine last_ (i := 6) (N := none) #[true, true, true, true, true, true, true] rfl rfl (by kernel_rfl) (by decide) (fun K hK => ?_)
            have zf := blk_frozen (blk_drew HBK.out) 2
            refine skip_ (w1 := ?_) (by rfl) rfl ?_ ?_
            rotate_left
            · go_simp
              rfl
            refine hK.out _ _ ?_
            clear hK K
            refine done_ (by kernel_rfl) ?_
            clear hwl
            go_wp2
            have HBX := Aside0.mk (show Below bw V (V.setCell ⟨bw, 2, none⟩ (.int .i64 (ll + (nl : Int)))).drew from Below.drew ((Below.refl bw V).setCell (p := ⟨bw, 2, none⟩) (Nat.le_refl _) _))
            have HBK2 := Aside0.mk (show (V.setCell ⟨bw, 2, none⟩ (.int .i64 (ll + (nl : Int)))).drew.heap[bw]? = some (.cells #[.int .i64 kk, .int .i64 (aa + (A.size : Int)), .int .i64 (ll + (nl : Int)), .string tt, .int .i64 nn] 31 (0, 0)) from blk_drew (blk_set HBK.out 2 _))
            generalize (V.setCell ⟨bw, 2, none⟩ (.int .i64 (ll + (nl : Int)))).drew = X at *
            obtain ⟨u0, u1, u2, u3, u4⟩ := HU.out
            have v0 := (HBX.out.cell (p := ⟨gc, (T.length + q) * 5, none⟩) hgcl).trans u0
            have v1 := (HBX.out.cell (p := ⟨gc, (T.length + q) * 5 + 1, none⟩) hgcl).trans u1
            have v2 := (HBX.out.cell (p := ⟨gc, (T.length + q) * 5 + 2, none⟩) hgcl).trans u2
            have v3 := (HBX.out.cell (p := ⟨gc, (T.length + q) * 5 + 3, none⟩) hgcl).trans u3
            have v4 := (HBX.out.cell (p := ⟨gc, (T.length + q) * 5 + 4, none⟩) hgcl).trans u4
            have z0 : X.cell? ⟨bw, 0, none⟩ = some (.int .i64 kk) := blk_cell HBK2.out 0
            have z1 : X.cell? ⟨bw, 1, none⟩ = some (.int .i64 (aa + (A.size : Int))) := blk_cell HBK2.out 1
            have z2 : X.cell? ⟨bw, 2, none⟩ = some (.int .i64 (ll + (nl : Int))) := blk_cell HBK2.out 2
            have z3 : X.cell? ⟨bw, 3, none⟩ = some (.string tt) := blk_cell HBK2.out 3
            have z4 : X.cell? ⟨bw, 4, none⟩ = some (.int .i64 nn) := blk_cell HBK2.out 4
            clear u0 u1 u2 u3 u4 hidx d88
            have hp0 : (0 : Int) ≤ (T.length : Int) + (q : Int) := by omega
            have hpn : ((T.length : Int) + (q : Int)).toNat = T.length + q := by omega
            refine start_ (n := 6) (S := fun w' => w'.cell? ⟨gc, (T.length + q) * 5, none⟩ = some (.int .i64 kk) ∧ w'.cell? ⟨gc, (T.length + q) * 5 + 1, none⟩ = some (.int .i64 (aa + (A.size : Int))) ∧ w'.cell? ⟨gc, (T.length + q) * 5 + 2, none⟩ = some (.int .i64 (ll + (nl : Int))) ∧ w'.cell? ⟨gc, (T.length + q) * 5 + 3, none⟩ = some (.string tt) ∧ w'.cell? ⟨gc, (T.length + q) * 5 + 4, none⟩ = some (.int .i64 nn) ∧ w'.cell? ⟨bw, 0, none⟩ = some (.int .i64 kk) ∧ w'.cell? ⟨bw, 1, none⟩ = some (.int .i64 (aa + (A.size : Int))) ∧ w'.cell? ⟨bw, 2, none⟩ = some (.int .i64 (ll + (nl : Int))) ∧ w'.cell? ⟨bw, 3, none⟩ = some (.string tt) ∧ w'.cell? ⟨bw, 4, none⟩ = some (.int .i64 nn)) (ds := []) #[false, false, false, false, false, false] (by kernel_rfl) rfl rfl ⟨v0, v1, v2, v3, v4, z0, z1, z2, z3, z4⟩ (fun hHeld => ?_)
            refine pure_ (i := 0) (N := some 113) (v := ?_) (a' := ?_) #[true, false, false, false, false, false] rfl rfl (by kernel_rfl) (fun _ _ _ h => h) (Or.inl ⟨by rfl, ?_⟩) ?_ ?_
            rotate_left
            · intro w'
              go_simp
              with_reducible rfl
            rotate_left
            · simp only [Act.put, List.setIfInBounds_toArray, List.set_cons_zero, List.set_cons_succ, i64_w, i32_w]
              rfl
            refine pure_ (i := 1) (N := some 114) (v := ?_) (a' := ?_) #[true, true, false, false, false, false] rfl rfl (by kernel_rfl) (fun _ _ _ h => h) (Or.inl ⟨by rfl, ?_⟩) ?_ ?_
            rotate_left
            · intro w'
              go_simp
              with_reducible rfl
            rotate_left
            · simp only [Act.put, List.setIfInBounds_toArray, List.set_cons_zero, List.set_cons_succ, i64_w, i32_w]
              rfl
            refine pure_ (i := 2) (N := some 115) (v := ?_) (a' := ?_) #[true, true, true, false, false, false] rfl rfl (by kernel_rfl) (fun _ _ _ h => h) (Or.inl ⟨by rfl, ?_⟩) ?_ ?_
            rotate_left
            · intro w'
              go_simp
              with_reducible rfl
            rotate_left
            · simp only [Act.put, List.setIfInBounds_toArray, List.set_cons_zero, List.set_cons_succ, i64_w, i32_w]
              rfl
            refine take_ (i := 3) (N := some 116) (v := ?_) (a' := ?_) #[true, true, true, true, false, false] rfl rfl (by kernel_rfl) (fun _ _ _ h => h) (Or.inl ⟨by rfl, ?_⟩) hHeld ?_ ?_
            rotate_left
            · rintro w' ⟨s0, s1, s2, s3, s4, s5, s6, s7, s8, s9⟩
              go_simp
              with_reducible rfl
            rotate_left
            · simp only [Act.put, List.setIfInBounds_toArray, List.set_cons_zero, List.set_cons_succ, i64_w, i32_w]
              rfl
            refine take_ (i := 4) (N := some 117) (v := ?_) (a' := ?_) #[true, true, true, true, true, false] rfl rfl (by kernel_rfl) (fun _ _ _ h => h) (Or.inl ⟨by rfl, ?_⟩) hHeld ?_ ?_
            rotate_left
            · rintro w' ⟨s0, s1, s2, s3, s4, s5, s6, s7, s8, s9⟩
              go_simp
              with_reducible rfl
            rotate_left
            · simp only [Act.put, List.setIfInBounds_toArray, List.set_cons_zero, List.set_cons_succ, i64_w, i32_w]
              rfl
            refine pure_ (i := 5) (N := some 118) (v := ?_) (a' := ?_) #[true, true, true, true, true, true] rfl rfl (by kernel_rfl) (fun _ _ _ h => h) (Or.inl ⟨by rfl, ?_⟩) ?_ ?_
            rotate_left
            · intro w'
              go_simp
              with_reducible rfl
            rotate_left
            · simp only [Act.put, List.setIfInBounds_toArray, List.set_cons_zero, List.set_cons_succ, i64_w, i32_w]
              rfl
            refine done_ (by kernel_rfl) ?_
            clear hpn
            go_wp2
            go_roundw
            case rel => exact ⟨T.length + q + 1, by omega, by go_num, ⟨Below.drew (HBV.out.trans (HBX.out.mono HWB.out))⟩⟩
            case measure => simp [intOf]; omega
        · go_wp2
          go_ret
          exact ⟨rfl, HB6.out.trans (HBr.out.mono HB6.out.size)⟩
end Go.Proofs.YtdlfjokhgmngcaaGreatDoor.Lx
