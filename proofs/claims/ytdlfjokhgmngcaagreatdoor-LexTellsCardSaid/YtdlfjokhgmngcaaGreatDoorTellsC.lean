/- LexTells: the walks. -/
import Derived.Test.YtdlfjokhgmngcaaGreatDoorTellsB
import Derived.Test.YtdlfjokhgmngcaaGreatDoorLexZ
namespace Go.Proofs.YtdlfjokhgmngcaaGreatDoor.Lx
open Go.RowKit Go.Shelf Go.Proofs.YtdlfjokhgmngcaaGreatDoorW.PrintWords Go.Proofs.YtdlfjokhgmngcaaGreatDoorW.PrintLast Go.Proofs.YtdlfjokhgmngcaaGreatDoorW.PrintMore Go.Proofs.YtdlfjokhgmngcaaGreatDoor.PLexTells
attribute [local go_sem] max2_int min2_int max_two min_two
set_option linter.unusedVariables false
set_option linter.unusedSimpArgs false

theorem refLine_any (s : ByteArray) (a : Int) (w : World) (hs : s.size ≤ 1000000) : Calls Tryz.prog 18 #[.string s, .int .i64 a] w fun e w' => e = .returned (.int .i64 (lineL s.data.toList a)) ∧ Below w.heap.size w w' := by
  obtain ⟨k, hk⟩ := (refLine_ev s a hs).rounds
  refine (ploverref02_Line.calls k s a _ w hk).mono ?_
  rintro e w' ⟨rfl, hd⟩
  exact ⟨rfl, hd.below⟩
theorem refLex_any (s : ByteArray) (w : World) (hs : s.size ≤ 20000) : Calls Tryz.prog 32 #[.string s] w fun e w' => ∃ A c, e = .returned (.tuple #[.slice A (lexT s).length c, .agg #[.int .i64 (match lexF s with | some (c, _) => c | none => 0), .int .i64 (match lexF s with | some (_, q) => q | none => 0)]]) ∧ Kd.R k31 31 w' w.heap.size (fun _ => True) (.slice A (lexT s).length c) ((lexT s).map Tok.s) ∧ Below w.heap.size w w' := by
  obtain ⟨k, hk⟩ := (refLex_ev s hs).rounds
  refine (ploverref02_Lex.calls k s _ _ _ w hk).mono ?_
  rintro e w' ⟨v0, rfl, hR, hB⟩
  obtain ⟨A, c, rfl⟩ := Kd.R_slice hR
  rw [List.length_map] at hR ⊢
  exact ⟨A, c, rfl, hR, hB⟩
theorem refSame_any (l : List S31) (A0 A1 : Option Addr) (n c0 c1 : Nat) (w : World) (hn : n = l.length) (hl : l.length ≤ 1000000) (h0 : Kd.C k31 w A0 l.length l) (hc0 : l.length ≤ c0) (h1 : Kd.C k31 w A1 l.length l) (hc1 : l.length ≤ c1) :
    Calls Tryz.prog 33 #[.slice A0 n c0, .slice A1 n c1] w fun e w' => e = .returned (.bool true) ∧ Below w.heap.size w w' := by
  subst hn
  obtain ⟨k, hk⟩ := (refSame_ev l hl).rounds
  refine (ploverref02_Same.calls k A0 c0 l A1 c1 l true w h0 hc0 h1 hc1 hk).mono ?_
  rintro e w' ⟨rfl, hd⟩
  exact ⟨rfl, hd.below⟩

theorem lexF_code {s : ByteArray} {c p : Int} (h : lexF s = some (c, p)) : c ≠ 0 := by
  have key : ∀ (n : Nat) (R : List UInt8) (p l : Nat) (cp : Int × Int), R.length ≤ n → (lexA R p l).2 = some cp → cp.1 ≠ 0 := by
    intro n
    induction n with
    | zero =>
      intro R p l cp hn h
      obtain rfl := List.length_eq_zero_iff.1 (show R.length = 0 by omega)
      rw [lexA_end] at h; cases h
    | succ n ih =>
      intro R p l cp hn h
      by_cases hR : R = []
      · subst hR; rw [lexA_end] at h; cases h
      · cases ho : oneL R with
        | bad c o => rw [lexA_bad hR ho] at h; cases h; exact bad_code ho
        | tok k m nn =>
          obtain ⟨hp, hle⟩ := oneL_pos ho
          rw [lexA_tok ho] at h
          exact ih _ _ _ cp (by rw [List.length_drop, List.length_drop]; omega) h
  unfold lexF at h
  split at h
  · cases h; decide
  · rw [lexL_A] at h
    exact key _ _ _ _ _ (Nat.le_refl _) h

set_option maxRecDepth 100000 in
set_option maxHeartbeats 6400000 in
theorem alike_any (s : ByteArray) (w : World) (hs : s.size ≤ 20000) (hL : Laid w) (hE : LaidE w) (hlow : 8 < w.heap.size) :
    Calls Tryz.prog 16 #[.string s] w fun e w' => e = .returned (.bool true) ∧ Below w.heap.size w w' := by
  have HX := Aside0.mk (Lex_V s w (by omega) hL hlow)
  have HE := Aside0.mk hE
  have HS := Aside0.mk hs
  clear hL hE
  go_enter Tryz.func16, Tryz.ntmps16
  go_wp2_with fail
  refine HX.out.mono ?_
  rintro e w1 ⟨a, c, u, rfl, hv⟩
  have HV := Aside0.mk hv
  clear hv HX
  go_wp2_with fail
  refine (refLex_any s w1 HS.out).mono ?_
  rintro e w2 ⟨A2, c2, rfl, hR2, hB2⟩
  have HR2 := Aside0.mk hR2
  have HB2 := Aside0.mk hB2
  clear hR2 hB2
  have hlen := lexT_len s
  have HB := Aside0.mk (HV.out.below.trans (HB2.out.mono HV.out.below.size))
  have HR1 := Aside0.mk (Kd.R_below HV.out.own HB2.out)
  have HEr := Aside0.mk HV.out.err
  have hs1 := HV.out.below.size
  have hs2 := HB2.out.size
  generalize hT : (lexT s) = T at *
  cases hF : lexF s with
  | none =>
    rw [hF] at HEr
    have hu := HEr.out
    dsimp only at hu
    subst hu
    dsimp only
    clear HEr hF
    have hsz : w2.heap.size < (w2.alloc (.cells #[.int .i64 0, .int .i64 0] 37)).heap.size := by simp
    have HB3 := Aside0.mk (show Below w2.heap.size w2 (w2.alloc (.cells #[.int .i64 0, .int .i64 0] 37)) from (Below.refl _ w2).alloc (Nat.le_refl _) _)
    have HR13 := Aside0.mk (Kd.R_reads' (Kd.R_below HR1.out HB3.out))
    have HR23 := Aside0.mk (Kd.R_reads' (Kd.R_below HR2.out HB3.out))
    have HBK := Aside0.mk (blk_new w2 (.cells #[.int .i64 0, .int .i64 0] 37))
    go_wp2_with fail
    refine (refSame_any (T.map Tok.s) a A2 T.length c c2 _ (by rw [List.length_map]) (by rw [List.length_map]; omega) HR13.out.2.2 (by rw [← HR13.out.1]; exact HR13.out.2.1) HR23.out.2.2 (by rw [← HR23.out.1]; exact HR23.out.2.1)).mono ?_
    rintro e w4 ⟨rfl, hb4⟩
    have HB4 := Aside0.mk hb4
    have hbk4 := (hb4.block w2.heap.size hsz).trans HBK.out
    have z0 : w4.cell? ⟨w2.heap.size, 0, none⟩ = some (.int .i64 0) := blk_cell hbk4 0
    have z1 : w4.cell? ⟨w2.heap.size, 1, none⟩ = some (.int .i64 0) := blk_cell hbk4 1
    have HB04 := Aside0.mk ((HB.out.trans (HB3.out.mono HB.out.size)).trans (hb4.mono (by have := HB.out.size; have := HB3.out.size; omega)))
    clear hb4 hbk4
    go_wp2_with fail
    refine (told_ok 0 w4).mono ?_
    rintro e w5 ⟨rfl, hb5⟩
    go_wp2
    go_ret
    exact ⟨rfl, HB04.out.trans (hb5.mono HB04.out.size)⟩
  | some cp =>
    obtain ⟨cc, pp⟩ := cp
    have HCo := Aside0.mk (lexF_code hF)
    rw [hF] at HEr
    have hu := HEr.out
    dsimp only at hu
    obtain ⟨gf, rfl, hgf⟩ := hu
    have HG := Aside0.mk hgf
    have hgl := blk_lt hgf
    dsimp only
    clear HEr hF hgf
    have hsz : w2.heap.size < (w2.alloc (.cells #[.int .i64 cc, .int .i64 pp] 37)).heap.size := by simp
    have HB3 := Aside0.mk (show Below w2.heap.size w2 (w2.alloc (.cells #[.int .i64 cc, .int .i64 pp] 37)) from (Below.refl _ w2).alloc (Nat.le_refl _) _)
    have HR13 := Aside0.mk (Kd.R_reads' (Kd.R_below HR1.out HB3.out))
    have HR23 := Aside0.mk (Kd.R_reads' (Kd.R_below HR2.out HB3.out))
    have HBK := Aside0.mk (blk_new w2 (.cells #[.int .i64 cc, .int .i64 pp] 37))
    go_wp2_with fail
    refine (refSame_any (T.map Tok.s) a A2 T.length c c2 _ (by rw [List.length_map]) (by rw [List.length_map]; omega) HR13.out.2.2 (by rw [← HR13.out.1]; exact HR13.out.2.1) HR23.out.2.2 (by rw [← HR23.out.1]; exact HR23.out.2.1)).mono ?_
    rintro e w4 ⟨rfl, hb4⟩
    have HB4 := Aside0.mk hb4
    have hbk4 := (hb4.block w2.heap.size hsz).trans HBK.out
    have z0 : w4.cell? ⟨w2.heap.size, 0, none⟩ = some (.int .i64 cc) := blk_cell hbk4 0
    have z1 : w4.cell? ⟨w2.heap.size, 1, none⟩ = some (.int .i64 pp) := blk_cell hbk4 1
    have HB04 := Aside0.mk ((HB.out.trans (HB3.out.mono HB.out.size)).trans (hb4.mono (by have := HB.out.size; have := HB3.out.size; omega)))
    clear hb4 hbk4
    go_wp2_with fail
    have HG4 := Aside0.mk (((HB2.out.trans (HB3.out.mono hs2)).trans (HB4.out.mono (by have := HB3.out.size; omega))).block gf hgl |>.trans HG.out)
    refine (told_hit gf cc pp w4 (HE.out.keep HB04.out) HG4.out HCo.out).mono ?_
    rintro e w5 ⟨rfl, hb5⟩
    go_wp2
    go_ret
    exact ⟨rfl, HB04.out.trans (hb5.mono HB04.out.size)⟩

set_option maxRecDepth 100000 in
set_option maxHeartbeats 6400000 in
theorem tells_any (s : ByteArray) (a : Option Addr) (c : Nat) (l : List UInt8) (n : Int) (w : World) (hs : s.size ≤ 140737488351232) (ha : BytesAt w a l) (hl : l.length ≤ 9223372036854775807) (hn : (Lit.int .i64 n).wf = true) (hL : Laid w) (hE : LaidE w) (hlow : 8 < w.heap.size) :
    Calls Tryz.prog 5 #[.string s, .slice a l.length c, .int .i64 n] w fun e w' => e = .returned (.bool true) ∧ Below w.heap.size w w' := by
  have HLd := Aside0.mk hL
  have HE := Aside0.mk hE
  have HA := Aside0.mk ha
  have szm : (⟨(madeL l).toArray⟩ : ByteArray).size ≤ 1920 := by
    show (madeL l).toArray.size ≤ 1920
    have := madeL_len l 120 (by omega)
    have e : madeL (l.take 120) = madeL l := by unfold madeL; rw [List.take_take, Nat.min_self]
    rw [e] at this
    simpa using this
  have HSZ := Aside0.mk szm
  clear hL hE ha szm hn
  have step : ∀ (t : ByteArray) (W : World) (m : Int), t.size ≤ 20000 → Below w.heap.size w W → Calls Tryz.prog 16 #[.string t] W (fun e w' => e = .returned (.bool true) ∧ Below W.heap.size W w') ∧
      Calls Tryz.prog 17 #[.string t, .int .i64 m] W (fun e w' => e = .returned (.int .i64 (lineL t.data.toList m)) ∧ Below W.heap.size W w') ∧
      Calls Tryz.prog 18 #[.string t, .int .i64 m] W (fun e w' => e = .returned (.int .i64 (lineL t.data.toList m)) ∧ Below W.heap.size W w') ∧
      Calls Tryz.prog 7 #[] W (fun e w' => e = .returned (.bool true) ∧ Below W.heap.size W w') := by
    intro t W m ht hb
    have hsz := hb.size
    have hLW := HLd.out.keep (hb.block _ (by omega)) (hb.block _ (by omega))
    have hEW := HE.out.keep hb
    exact ⟨alike_any t W ht hLW hEW (by omega), Line_any t m W (by omega), refLine_any t m W (by omega), works_any W hLW hEW (by omega)⟩
  have HST := Aside0.mk step
  have HB0 := Aside0.mk (Below.refl w.heap.size w)
  clear step
  have bd : ∃ t : ByteArray, t.size ≤ 1000 ∧ (s.size ≤ 1000 → t = s) ∧ (1000 < s.size → t = s.extract 0 1000) := by
    rcases Nat.lt_or_ge 1000 s.size with h | h
    · exact ⟨s.extract 0 1000, by rw [ByteArray.size_extract]; omega, fun h2 => by omega, fun _ => rfl⟩
    · exact ⟨s, h, fun _ => rfl, fun h2 => by omega⟩
  obtain ⟨t, ht, t1, t2⟩ := bd
  have HT1 := Aside0.mk t1
  have HT2 := Aside0.mk t2
  clear t1 t2
  by_cases h1 : s.size ≤ 1000
  all_goals
    go_enter Tryz.func5, Tryz.ntmps5
    go_wp2_with fail
    first | (rw [← HT1.out (by omega)]) | (rw [← HT2.out (by omega)])
    refine (made_B a c l w HA.out hl).mono ?_
    rintro e w1 ⟨rfl, hb1⟩
    have HB1 := Aside0.mk hb1
    have hs1 := hb1.size
    clear hb1
    have hsm := HSZ.out
    generalize (⟨(madeL l).toArray⟩ : ByteArray) = m at *
    go_wp2_with fail
    refine (HST.out t w1 0 (by omega) HB1.out).1.mono ?_
    rintro e w2 ⟨rfl, hb2⟩
    have HB2 := Aside0.mk (HB1.out.trans (hb2.mono HB1.out.size))
    clear hb2
    go_wp2_with fail
    refine (HST.out m w2 0 (by omega) HB2.out).1.mono ?_
    rintro e w3 ⟨rfl, hb3⟩
    have HB3 := Aside0.mk (HB2.out.trans (hb3.mono HB2.out.size))
    clear hb3
    go_wp2_with fail
    refine (HST.out t w3 _ (by omega) HB3.out).2.1.mono ?_
    rintro e w4 ⟨rfl, hb4⟩
    have HB4 := Aside0.mk (HB3.out.trans (hb4.mono HB3.out.size))
    clear hb4
    go_wp2_with fail
    refine (HST.out t w4 _ (by omega) HB4.out).2.2.1.mono ?_
    rintro e w5 ⟨rfl, hb5⟩
    have HB5 := Aside0.mk (HB4.out.trans (hb5.mono HB4.out.size))
    clear hb5
    go_wp2_with fail
    refine (HST.out m w5 _ (by omega) HB5.out).2.1.mono ?_
    rintro e w6 ⟨rfl, hb6⟩
    have HB6 := Aside0.mk (HB5.out.trans (hb6.mono HB5.out.size))
    clear hb6
    go_wp2_with fail
    refine (HST.out m w6 _ (by omega) HB6.out).2.2.1.mono ?_
    rintro e w7 ⟨rfl, hb7⟩
    have HB7 := Aside0.mk (HB6.out.trans (hb7.mono HB6.out.size))
    clear hb7
    go_wp2_with fail
    refine (HST.out m w7 0 (by omega) HB7.out).2.2.2.mono ?_
    rintro e w8 ⟨rfl, hb8⟩
    have HB8 := Aside0.mk (HB7.out.trans (hb8.mono HB7.out.size))
    clear hb8
    go_wp2
    go_ret
    exact ⟨rfl, HB8.out⟩
end Go.Proofs.YtdlfjokhgmngcaaGreatDoor.Lx
