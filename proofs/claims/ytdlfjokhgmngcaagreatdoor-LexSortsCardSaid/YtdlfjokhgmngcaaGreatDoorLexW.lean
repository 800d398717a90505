/- errors.Is at a fault's pointer and its own number. -/
import Derived.Test.YtdlfjokhgmngcaaGreatDoorLexV
namespace Go.Proofs.YtdlfjokhgmngcaaGreatDoor.Lx
open Go.RowKit Go.Extern.Stop Go.Stop Go.Extern
set_option linter.unusedVariables false
set_option linter.unusedSimpArgs false

theorem Is.typeOf (v : Value) (w : World) : (ReflectliteType.typeOf #[.iface 35 v]).run Tryz.prog w = .ok (.iface 125 (.agg #[.pointer (some ⟨10, 35, none⟩)])) w := by kernel_rfl
theorem Is.methodComparable (h : Value) (w : World) : (Go.method 338 125 (.agg #[h]) "Comparable").run Tryz.prog w = .ok (159, .agg #[h]) w := by kernel_rfl
theorem Is.compF : ∃ F : Array Value → Sem Value, (∀ args w, (callFunc 159 args).run Tryz.prog w = ((F args).run Tryz.prog w).andThen fun v w' => .ok (.value v) w') ∧ ∀ w, (F #[.agg #[.pointer (some ⟨10, 35, none⟩)]]).run Tryz.prog w = .ok (.bool true) w :=
  ⟨(Extern.ReflectliteType.method fun t => do Extern.Rtype.noPackHeld "Comparable" t; pure (.bool (← typeInfo t).comparable)),
   @run_callFunc_extern Tryz.prog 159 _ _ Tryz.func159 (by kernel_rfl) (by kernel_rfl) (by kernel_rfl) (by kernel_rfl), fun w => by kernel_rfl⟩
theorem Is.methodUnwrap (h : Value) (w : World) : (Go.method 338 56 h "Unwrap").run Tryz.prog w = .ok (153, h) w := by kernel_rfl
theorem Is.lacksIs (v : Value) (xT : TypeId) (w : World) : (Instr.typeAssert (.iface 56 v) xT 137 true).run Tryz.prog w = .ok (.tuple #[.nilIface, .bool false]) w :=
  run_typeAssert_lacksB Tryz.underlying137 (by kernel_rfl) (by kernel_rfl) v xT w
theorem Is.hasUnwrap (v : Value) (xT : TypeId) (w : World) : (Instr.typeAssert (.iface 56 v) xT 132 true).run Tryz.prog w = .ok (.tuple #[.iface 56 v, .bool true]) w :=
  run_typeAssert_hasB Tryz.underlying132 (by kernel_rfl) v xT w
theorem Is.neq (v u : Value) (w : World) : (binOp .eql 26 (.iface 56 v) (.iface 35 u)).run Tryz.prog w = .ok (.bool false) w :=
  run_eql_iface_types 56 35 v u Tryz.underlying26 (by decide) w

theorem Is.comp : (Tryz.prog.info? 35).map (·.comparable) = some true := by kernel_rfl
theorem Is.eqd (d : Nat) (v u : Value) (w : World) : (Op.equalIn (d + 1) 26 (.iface 35 v) (.iface 35 u)).run Tryz.prog w = (Op.equalIn d 35 v u).run Tryz.prog w := by
  obtain ⟨i, hi, hc⟩ := Option.map_eq_some_iff.1 Is.comp
  rw [Op.equalIn]
  simp [run_underlying Tryz.underlying26, typeInfo, hi, hc]
theorem Is.eqq (a b : Int) (w : World) : (binOp .eql 26 (.iface 35 (.int .i64 a)) (.iface 35 (.int .i64 b))).run Tryz.prog w = .ok (.bool (a == b)) w := by
  have h := Is.eqd 9999 (.int .i64 a) (.int .i64 b) w
  have h2 := run_equalIn_int (P := Tryz.prog) (w := w) 9998 35 .i64 .i64 a b Tryz.underlying35
  rw [h2] at h
  simp only [binOp]
  simp [Op.equal, Op.maxDepth, h]

set_option maxRecDepth 100000 in
theorem unwrap_any (g : Nat) (code pl : Int) (w : World) (hg : w.cell? ⟨g, 0, none⟩ = some (.int .i64 code)) :
    Calls Tryz.prog 153 #[.pointer (some ⟨g, 0, none⟩)] w fun e w' => e = .returned (.iface 35 (.int .i64 code)) ∧ w' = w := by
  go_enter Tryz.func153, Tryz.ntmps153
  go_wp2
  go_ret
  exact ⟨rfl, rfl⟩

set_option maxRecDepth 100000 in
set_option maxHeartbeats 6400000 in
theorem is_in (g : Nat) (code : Int) (w : World) (hg : w.cell? ⟨g, 0, none⟩ = some (.int .i64 code)) :
    Calls Tryz.prog 49 #[.iface 56 (.pointer (some ⟨g, 0, none⟩)), .iface 35 (.int .i64 code), .bool true] w fun e w' => e = .returned (.bool true) ∧ w' = w := by
  have h1 := Is.lacksIs
  have h2 := Is.hasUnwrap
  have h3 := Is.neq
  have h4 := Is.methodUnwrap
  go_enter Tryz.func49, Tryz.ntmps49
  go_wp2
  refine wp_loop_rounds 2 ?_
  rw [rounds_succ]
  go_wp2_with fail
  refine (unwrap_any g code 0 _ hg).mono ?_
  rintro e w' ⟨rfl, rfl⟩
  go_wp2
  rw [rounds_succ]
  have h5 := Is.eqq code code w'
  rw [show (code == code) = true from beq_self_eq_true code] at h5
  go_wp2
  go_ret
  exact ⟨rfl, rfl⟩

set_option maxRecDepth 100000 in
set_option maxHeartbeats 6400000 in
theorem is_hit (g : Nat) (code : Int) (w : World) (hg : w.cell? ⟨g, 0, none⟩ = some (.int .i64 code)) :
    Calls Tryz.prog 28 #[.iface 56 (.pointer (some ⟨g, 0, none⟩)), .iface 35 (.int .i64 code)] w fun e w' => e = .returned (.bool true) ∧ w' = w := by
  have h1 := @run_callFunc_extern Tryz.prog 48 _ ReflectliteType.typeOf Tryz.func48 (by kernel_rfl) (by kernel_rfl) (by kernel_rfl) (by kernel_rfl)
  have h2 := Is.typeOf
  have h3 := Is.methodComparable
  go_enter Tryz.func28, Tryz.ntmps28
  obtain ⟨F, h4, h5⟩ := Is.compF
  go_wp2_with fail
  refine (is_in g code _ hg).mono ?_
  rintro e w' ⟨rfl, rfl⟩
  go_wp2
  go_ret
  exact ⟨rfl, rfl⟩
end Go.Proofs.YtdlfjokhgmngcaaGreatDoor.Lx
