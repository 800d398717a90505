/- The lexer's tokens and Lex, walked. -/
import Derived.Test.YtdlfjokhgmngcaaGreatDoorLexT
namespace Go.Proofs.YtdlfjokhgmngcaaGreatDoor.Lx
open Go.RowKit Go.Shelf Go.Proofs.YtdlfjokhgmngcaaGreatDoorW.PrintWords
set_option linter.unusedVariables false
set_option linter.unusedSimpArgs false
attribute [local go_sem] Oper.semAt_some

set_option maxRecDepth 100000 in
theorem tokens_any (b : Nat) (w : World) :
    Calls Tryz.prog 24 #[.pointer (some ⟨b, 0, none⟩)] w fun e w' => e = .returned (.func (.func 36) #[] #[.pointer (some ⟨w.heap.size, 0, none⟩)]) ∧ w' = w.alloc (.cells #[.pointer (some ⟨b, 0, none⟩)] 57) := by
  have hmf : ∀ (fn : Fn) (first cap : Array Value) (w : World), (Instr.makeFunc fn first cap).run Tryz.prog w = .ok (.func fn first cap) w := fun _ _ _ _ => rfl
  go_enter Tryz.func24, Tryz.ntmps24
  go_wp2
  go_ret
  exact ⟨rfl, rfl⟩

def tokCells (x : Tok) : List Value := [.int .i64 x.k, .int .i64 x.a, .int .i64 x.l, .string x.t, .int .i64 x.n]

/-- Behind Lex. -/
def Lexed (s : ByteArray) (w : World) (e : Ending) (w' : World) : Prop :=
  Below w.heap.size w w' ∧
  (if 20000 < s.size then ∃ v, e = .returned (.tuple #[.slice none 0 0, v]) ∧ FaultAt w' v 4 20000
   else match (lexL s.data.toList).2 with
   | some (c, pl) => ∃ v, e = .returned (.tuple #[.slice none 0 0, v]) ∧ FaultAt w' v c pl
   | none => ∃ v, e = .returned (.tuple #[v, .nilIface]) ∧ w'.ownsRow w.heap.size 31 5 v (lexL s.data.toList).1.length ((lexL s.data.toList).1.flatMap tokCells))

set_option maxRecDepth 100000 in
set_option maxHeartbeats 6400000 in
theorem Lex_long (s : ByteArray) (w : World) (hs : 20000 < s.size) (hs2 : s.size < 2 ^ 62) : Calls Tryz.prog 8 #[.string s] w (Lexed s w) := by
  have hd : decide ((20000 : Int) < (s.size : Int)) = true := decide_eq_true (by omega)
  have hd2 : decide (20000 < s.size) = true := decide_eq_true hs
  refine (callsIn_wide (n := 4)).1 ?_
  refine callsIn_of_wp_marks Tryz.func8 rfl trivial ?_
  simp only [Tryz.ntmps8, List.size_toArray, List.length_cons, List.length_nil, Nat.reduceAdd, Nat.reduceSub, Array.replicate_succ, Array.replicate_zero, List.push_toArray, List.append_toArray, List.nil_append, List.cons_append]
  gi_wp2
  refine ⟨_, results_tmp2 rfl _ _ _, (Below.refl _ w).alloc (Nat.le_refl _) _, ?_⟩
  rw [if_pos hs]
  exact ⟨_, rfl, w.heap.size, rfl, blk_new w _⟩

set_option maxRecDepth 100000 in
theorem zero_lex : Tryz.zeroCells74 = lexC 0 0 zerosS [.string ⟨#[]⟩, .int .i64 0, .int .i64 0, .nilIface] := by kernel_rfl
theorem zero_set (s : ByteArray) : (Tryz.zeroCells74.setIfInBounds 259 (.string s)).setIfInBounds 261 (.int .i64 1) = lexC 0 0 zerosS (lxt s 0 1 .nilIface) := by
  rw [zero_lex]
  have h1 := lexC_sett (d := 0) (m := 0) (S := zerosS) (tl := [.string ⟨#[]⟩, .int .i64 0, .int .i64 0, .nilIface]) (j := 0) (.string s) zerosS_len
  rw [show 259 = 259 + 0 from rfl, h1]
  have h2 := lexC_sett (d := 0) (m := 0) (S := zerosS) (tl := [.string s, .int .i64 0, .int .i64 0, .nilIface]) (j := 2) (.int .i64 1) zerosS_len
  exact h2

theorem row_le {w : World} {base base' : Nat} {e : TypeId} {size : Nat} {v : Value} {n : Nat} {xs : List Value} (h : w.ownsRow base e size v n xs) (hb : base' ≤ base) : w.ownsRow base' e size v n xs :=
  ⟨h.1, h.2.imp_right fun ⟨g, cap, cur, h1, h2, h3⟩ => ⟨g, cap, cur, h1, Nat.le_trans hb h2, h3⟩⟩

/-- What Lex's loop keeps: the box holds the tokens so far. -/
def Coll (w : World) (d ab : Nat) (pre : List Tok) (W : World) : Prop :=
  Below w.heap.size w W ∧ ∃ v, Boxed W ab 24 v ∧ W.ownsRow d 31 5 v pre.length (pre.flatMap tokCells)

theorem coll_inv (w : World) (b pb ab d : Nat) (hb : w.heap.size ≤ b) (hab : w.heap.size ≤ ab) (hne : ab ≠ b) (hbd : b < d) (had : ab < d) (hwd : w.heap.size ≤ d) : Inv b pb d (Coll w d ab) := by
  refine ⟨?_, ?_⟩
  · rintro pre A B ⟨h1, v, h2, h3⟩ hA hF
    refine ⟨h1.grown hF.out h1.size (fun k e => by cases e; exact hb), v, h2.kept hF.out (by simpa using hne), h3.kept hF.out ?_⟩
    cases hv : v.ownBlock with
    | none => exact .inl rfl
    | some k => exact .inr (fun e => by have := (h3.lt k hv).1; cases e; omega)
  · rintro pre A l o o' ⟨h1, v, h2, h3⟩ hl ho hc
    refine ⟨h1.grown (grownBy_putObj' _ _ _) h1.size (fun k e => by cases e; omega), v, (World.putObj_heap_other (by omega)).trans h2, ownsRow_putObj h3 o' ho hc⟩

theorem tok_info : (Tryz.prog.info? 31).map (fun i => (i.zero, i.size, i.bytes)) = some (some (.agg #[.int .i64 0, .int .i64 0, .int .i64 0, .string ⟨#[]⟩, .int .i64 0]), 5, 48) := by kernel_rfl

set_option maxRecDepth 100000 in
set_option maxHeartbeats 6400000 in
theorem Lex_fits (s : ByteArray) (w : World) (hs : s.size ≤ 20000) (hL : Laid w) (hlow : 8 < w.heap.size) : Calls Tryz.prog 8 #[.string s] w (Lexed s w) := by
  have hd : decide ((20000 : Int) < (s.size : Int)) = false := decide_eq_false (by omega)
  have hd2 : decide (20000 < s.size) = false := decide_eq_false (by omega)
  refine (callsIn_wide (n := 4)).1 ?_
  refine callsIn_of_wp_marks Tryz.func8 rfl trivial ?_
  simp only [Tryz.ntmps8, List.size_toArray, List.length_cons, List.length_nil, Nat.reduceAdd, Nat.reduceSub, Array.replicate_succ, Array.replicate_zero, List.push_toArray, List.append_toArray, List.nil_append, List.cons_append]
  gi_wp2_with fail
  refine ⟨trivial, (callsIn_wide.2 (tokens_any _ _)).mono ?_⟩
  rintro e W1 ⟨rfl, hW1⟩
  have hb1 : Below w.heap.size w W1 := by
    rw [hW1]; exact (((Below.refl _ w).alloc (Nat.le_refl _) _).alloc (by simp) _).alloc (by simp; omega) _
  have hlx : LX W1 w.heap.size false s 0 1 .nilIface := by
    rw [hW1]
    refine lx_alloc (lx_alloc ?_ _) _
    show (w.alloc _).heap[w.heap.size]? = _
    rw [blk_new, zero_set]
    rfl
  have hbox : Boxed W1 (w.heap.size + 1) 24 (.slice none 0 0) := by
    rw [hW1]
    have := (Boxed.new (w.alloc (.cells ((Tryz.zeroCells74.setIfInBounds 259 (.string s)).setIfInBounds 261 (.int .i64 1)) 74)) 24 (.slice none 0 0)).alloc (.cells #[.pointer (some ⟨w.heap.size, 0, none⟩)] 57)
    simpa using this
  have hpb : W1.heap[w.heap.size + 2]? = some (.cells #[.pointer (some ⟨w.heap.size, 0, none⟩)] 57 (0, 0)) := by
    rw [hW1]
    have := blk_new ((w.alloc (.cells ((Tryz.zeroCells74.setIfInBounds 259 (.string s)).setIfInBounds 261 (.int .i64 1)) 74)).alloc (.cells #[.slice none 0 0] 24)) (.cells #[.pointer (some ⟨w.heap.size, 0, none⟩)] 57)
    simpa using this
  have hL1 : Laid W1 := hL.keep (hb1.block _ (by omega)) (hb1.block _ (by omega))
  have hsz : W1.heap.size = w.heap.size + 3 := by rw [hW1]; simp
  clear hW1
  have HB1 := Aside0.mk hb1
  have HX1 := Aside0.mk hlx
  have HBx1 := Aside0.mk hbox
  have HPb1 := Aside0.mk hpb
  have HL1 := Aside0.mk hL1
  clear hb1 hlx hbox hpb hL1 hL hd hd2
  gi_wp2
  obtain ⟨i0, hi, hz0, hz1, hz2⟩ := info_parts tok_info
  refine wpIn_range_toks (b := w.heap.size) (pb := w.heap.size + 2) (N := 20002) (s := s) (gf := 36) (lb := #[.pointer (some ⟨w.heap.size + 2, 0, none⟩)]) rfl (fun _ _ => rfl) (by omega) (by omega) (by omega) ?_ (Coll w W1.heap.size (w.heap.size + 1)) (coll_inv w _ _ _ _ (by omega) (by omega) (by omega) (by omega) (by omega) (by omega)) ?_
    (fun x W => W.alloc (.cells #[.int .i64 x.k, .int .i64 x.a, .int .i64 x.l, .string x.t, .int .i64 x.n] 31)) 6 ?_ ?_ ?_ ?_
  · rintro l J W hR hgr hJ
    have hX : LX W w.heap.size false s 0 1 .nilIface := (hgr.block _ (by omega) (by simp)).trans HX1.out
    exact tokens1_any l w.heap.size (w.heap.size + 2) 20002 J hR s W hX ((hgr.block _ (by omega) (by simp)).trans HPb1.out) (HL1.out.keep (hgr.block _ (by omega) (by simp)) (hgr.block _ (by omega) (by simp))) hs (by omega) (by omega) ⟨by omega, by omega⟩ hJ
  · rintro W hgr
    exact ⟨HB1.out.grown hgr HB1.out.size (fun k e => by cases e), _, HBx1.out.kept hgr (by simp), W.ownsRow_nil _ _ _⟩
  · rintro pre x W ⟨h1, v, h2, h3⟩ hW
    have hs1 := h1.size
    exact ⟨⟨h1.alloc h1.size _, v, h2.alloc _, h3.alloc _⟩, KeepsOthers.alloc _ _, Kp.alloc (n0 := W1.heap.size) _ (by omega) (by omega) (by omega) (by omega)⟩
  · rintro l x W K hK
    simp only [List.setIfInBounds_toArray, List.set_cons_succ, List.set_cons_zero, Tok.val] at hK ⊢
    gi_wp2
    exact hK
  · rintro l pre x W o hl hlW hI hW hlen ⟨hb2, v, hv, hrow⟩
    have htb : ((W.alloc (.cells #[.int .i64 x.k, .int .i64 x.a, .int .i64 x.l, .string x.t, .int .i64 x.n] 31)).putObj l o).heap[W.heap.size]? = some (.cells #[.int .i64 x.k, .int .i64 x.a, .int .i64 x.l, .string x.t, .int .i64 x.n] 31 (0, 0)) :=
      (World.putObj_heap_other (by omega)).trans (blk_new W _)
    generalize (W.alloc (.cells #[.int .i64 x.k, .int .i64 x.a, .int .i64 x.l, .string x.t, .int .i64 x.n] 31)).putObj l o = W2 at *
    have htl := blk_lt htb
    have z0 : W2.cell? ⟨W.heap.size, 0, none⟩ = some (.int .i64 x.k) := blk_cell htb 0
    have z1 : W2.cell? ⟨W.heap.size, 1, none⟩ = some (.int .i64 x.a) := blk_cell htb 1
    have z2 : W2.cell? ⟨W.heap.size, 2, none⟩ = some (.int .i64 x.l) := blk_cell htb 2
    have z3 : W2.cell? ⟨W.heap.size, 3, none⟩ = some (.string x.t) := blk_cell htb 3
    have z4 : W2.cell? ⟨W.heap.size, 4, none⟩ = some (.int .i64 x.n) := blk_cell htb 4
    have y0 := hv.cell
    have hmax : 20003 ≤ maxLen := by decide
    have HB2 := Aside0.mk hb2
    have HV := Aside0.mk hv
    have HRow := Aside0.mk hrow
    have hs1 := hb2.size
    clear hb2 hv hrow hI htb
    simp only [List.setIfInBounds_toArray, List.set_cons_succ, List.set_cons_zero, Tok.val]
    gi_wp2_with (gi_at_builtin; refine wpListIn_append_own _ rfl _ _ 24 rfl W1.heap.size 31 i0 (.agg #[.int .i64 0, .int .i64 0, .int .i64 0, .string ⟨#[]⟩, .int .i64 0]) 5 48 Tryz.underlying24 hi hz0 hz1 hz2 rfl (by decide) _ _ _ rfl (HRow.out.alloc _) ⟨W2.heap.size, 0, none⟩ 1 1 (tokCells x) rfl rfl ?_ ?_ (by omega) (by omega) ?_ ?_)
    · intro j u hj
      match j, hj with
      | 0, hj => cases hj; exact blk_cell (blk_new W2 _) 0
      | 1, hj => cases hj; exact blk_cell (blk_new W2 _) 1
      | 2, hj => cases hj; exact blk_cell (blk_new W2 _) 2
      | 3, hj => cases hj; exact blk_cell (blk_new W2 _) 3
      | 4, hj => cases hj; exact blk_cell (blk_new W2 _) 4
      | n + 5, hj => simp [tokCells] at hj
    · intro u hu
      simp only [tokCells, List.mem_cons, List.not_mem_nil, or_false] at hu
      rcases hu with rfl | rfl | rfl | rfl | rfl <;> rfl
    · simp; omega
    · intro v' w3 hown' hgrow hnil
      rw [← hsz] at hown'
      obtain ⟨g', cap', rfl⟩ := ownsRow_succ hown'
      obtain ⟨q1, q2, q3, q4, q5⟩ := HV.out.appended (show (24 : Nat) ≠ 31 by decide) (row_le HRow.out (by omega : w.heap.size ≤ W1.heap.size)) (by omega) (by omega : w.heap.size ≤ w.heap.size + 1) (row_le hown' (by omega : w.heap.size ≤ W1.heap.size)) hgrow
      have hrow4 := hown'.kept (grownBy_setCell' w3 (w.heap.size + 1) (.slice (some ⟨g', 0, none⟩) (pre.length + 1) cap')) (.inr (q1.not_row (show (24 : Nat) ≠ 31 by decide) hown').symm)
      have hkeep : ∀ k, k < W1.heap.size → k ≠ w.heap.size + 1 → (w3.setCell ⟨w.heap.size + 1, 0, none⟩ (.slice (some ⟨g', 0, none⟩) (pre.length + 1) cap')).heap[k]? = W2.heap[k]? := by
        intro k hk hne
        refine (Below.heap_setCell _ _ _ k hne).trans ((hgrow.block k (by simp; omega) (fun e => ?_)).trans (Below.heap_alloc _ _ k (by omega)))
        have := (HRow.out.lt k e.symm).1
        omega
      have HQ := Aside0.mk (And.intro q2 (And.intro q4 (And.intro q5 (And.intro hrow4 hkeep))))
      have y3 := q1.cell
      have y4 := q1.frozen
      clear q1 q2 q3 q4 q5 hrow4 hkeep hnil hgrow hown'
      gi_wp2
      rw [← hsz]
      refine ⟨HQ.out.2.1, ⟨HQ.out.2.1.size, HQ.out.2.2.2.2 _ (by omega) (by omega), HQ.out.2.2.2.2 _ (by omega) (by omega), HQ.out.2.2.2.2 _ (by omega) (by omega), HQ.out.2.2.2.2 _ (by omega) (by omega)⟩, HB2.out.trans HQ.out.2.2.1, _, HQ.out.1, ?_⟩
      have := HQ.out.2.2.2.1
      rw [List.length_append, List.length_singleton, List.flatMap_append, List.flatMap_singleton]
      exact this
  · rintro D W ⟨⟨hB, v, hv, hrow⟩, i2, p', l', ve, hx, hve⟩ hD hK
    have HBz := Aside0.mk hB
    have HRow := Aside0.mk (row_le hrow (by omega : w.heap.size ≤ W1.heap.size))
    have HX := Aside0.mk hx
    have y0 := hv.cell
    have y1 : W.cell? ⟨w.heap.size, 262, none⟩ = some ve := lx_at hx 3
    have HKd := Aside0.mk hK
    clear hB hrow hx hv hK HB1 HX1 HBx1 HPb1 HL1
    cases hres : (lexL s.data.toList).2 with
    | none =>
      rw [hres] at hve
      subst hve
      gi_wp2
      refine ⟨by simp, .inl ⟨_, _, rfl, run_takeDeferred HKd.out, ?_⟩⟩
      refine ⟨_, results_tmp2 rfl _ _ _, HBz.out.grown (grownBy_putObj' _ _ _) HBz.out.size (fun k e => by cases e; omega), ?_⟩
      rw [if_neg (by omega), hres]
      exact ⟨_, rfl, ownsRow_putObj HRow.out _ HKd.out rfl⟩
    | some cp =>
      obtain ⟨c, pl⟩ := cp
      rw [hres] at hve
      obtain ⟨g3, rfl, hg3⟩ := hve
      have HG3 := Aside0.mk hg3
      clear hg3
      gi_wp2
      refine wpIn_wide.2 ?_
      go_quiet (fail)
      go_goals
      have HBq := Aside0.mk (show Below w.heap.size w (W.drewN nq) from ⟨HBz.out.os, HBz.out.tape, HBz.out.output, HBz.out.size, HBz.out.block⟩)
      have HKq := Aside0.mk (show (W.drewN nq).heap[D]? = some (.deferred (some [])) from HKd.out)
      have HGq := Aside0.mk (show (W.drewN nq).heap[g3]? = some (.cells #[.int .i64 c, .int .i64 pl] 37 (0, 0)) from HG3.out)
      generalize W.drewN nq = W9 at *
      gi_wp2
      refine ⟨by simp, .inl ⟨_, _, rfl, run_takeDeferred HKq.out, ?_⟩⟩
      refine ⟨_, results_tmp2 rfl _ _ _, HBq.out.grown (grownBy_putObj' _ _ _) HBq.out.size (fun k e => by cases e; omega), ?_⟩
      rw [if_neg (by omega), hres]
      refine ⟨_, rfl, g3, rfl, (World.putObj_heap_other ?_).trans HGq.out⟩
      rintro rfl
      have := HKq.out.symm.trans HGq.out
      cases this
end Go.Proofs.YtdlfjokhgmngcaaGreatDoor.Lx
