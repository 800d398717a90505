/- errors.As at a fault's pointer (lines of the worked proof ToyasAs, turned to this program's types).
   errors.Is at a fault's pointer and its own number.
   told and same, where they say yes.
   strings.Builder at this dump (its copyCheck ends in code that the loader refuses, which no run here comes to), and made. -/
import Derived.WalkKit
import Derived.LaidEql
import Derived.Stop.Asserts
import Derived.RowKitTokens
import Derived.Shelf.RegionOpenPlain
import Derived.Lib.Builder
import Derived.Lib.AppendStr
import Derived.Lib.UnsafeStr
import Derived.Lib.Strings
import Derived.Test.YtdlfjokhgmngcaaGreatDoorLexR
namespace Go.Proofs.YtdlfjokhgmngcaaGreatDoor.Lx
open Go.RowKit Go.Extern.Stop Go.Stop Go.Extern
set_option linter.unusedVariables false
set_option linter.unusedSimpArgs false

/-- errors.As(nil, target). -/
theorem as_nil (t : Value) (w : World) :
    Calls Tryz.prog 27 #[.nilIface, t] w fun e w' => e = .returned (.bool false) ∧ w' = w := by
  go_enter Tryz.func27, Tryz.ntmps27
  go_wp2
  go_ret
  exact ⟨rfl, rfl⟩

/-! ### CLOSED FACTS ON THE MODEL's ENTRIES FOR internal/reflectlite, at this program's types -/
theorem As.valueOf27 (t : Addr) (w : World) : (ReflectliteValue.unpack (.iface 80 (.pointer (some t)))).run Tryz.prog w
    = .ok (.agg #[.pointer (some ⟨10, 80, none⟩), .pointer (some ⟨w.heap.size, 0, none⟩), .int .u64 150]) (w.alloc (.cells #[.pointer (some t)] 80)) := by kernel_rfl
theorem As.type27 (a : Addr) (w : World) : (ReflectliteValue.methodAny (ReflectliteValue.valueError "reflectlite.Value.Type" 0) (fun t _ _ _ => ReflectliteType.toType t) #[.agg #[.pointer (some ⟨10, 80, none⟩), .pointer (some a), .int .u64 150]]).run Tryz.prog w
    = .ok (.iface 125 (.agg #[.pointer (some ⟨10, 80, none⟩)])) w := by kernel_rfl
theorem As.methodKind (h : Value) (w : World) : (Go.method 338 125 (.agg #[h]) "Kind").run Tryz.prog w = .ok (147, h) w := by kernel_rfl
theorem As.kind27 (w : World) : ((ReflectliteType.abiMethod fun t => (fun a : Nat => Value.int IntKind.u8 (a : Int)) <$> Rtype.kind t) #[.pointer (some ⟨10, 80, none⟩)]).run Tryz.prog w = .ok (.int .u8 22) w := by kernel_rfl
theorem As.kind25 (w : World) : ((ReflectliteType.abiMethod fun t => (fun a : Nat => Value.int IntKind.u8 (a : Int)) <$> Rtype.kind t) #[.pointer (some ⟨10, 56, none⟩)]).run Tryz.prog w = .ok (.int .u8 22) w := by kernel_rfl

/-! ### THE ENTRIES THAT READ OR WRITE MEMORY: laws with a premise on the cell (after Derived/Lib/ReflectliteSlice.lean's manner: each unfolding a lemma of its own, by rfl) -/
theorem rlm (z : Sem Value) (f : TypeId → Addr → Nat → Nat → Sem Value) (v : Value) :
    ReflectliteValue.method z f #[v] = (do match ← ReflectliteValue.parts v with | none => z | some (t, a, fl) => f t a fl (fl % 32)) := rfl
theorem As.parts27 (a : Addr) (w : World) : (ReflectliteValue.parts (.agg #[.pointer (some ⟨10, 80, none⟩), .pointer (some a), .int .u64 150])).run Tryz.prog w = .ok (some (80, a, 150)) w := by kernel_rfl
/-- (Value).IsNil at the Value of a **p.E that is not nil. -/
theorem As.isNil27 (a p : Addr) (W : World) (ha : W.cell? a = some (.pointer (some p))) :
    (ReflectliteValue.method (ReflectliteValue.valueError "reflectlite.Value.IsNil" 0) ReflectliteValue.isNil #[.agg #[.pointer (some ⟨10, 80, none⟩), .pointer (some a), .int .u64 150]]).run Tryz.prog W = .ok (.bool false) W := by
  rw [rlm]
  simp only [Sem.run_bind, As.parts27, Result.andThen]
  simp [ReflectliteValue.isNil, loadVar, isAgg, underlying, Tryz.underlying80, ha, Result.andThen]

theorem As.methodElem (h : Value) (w : World) : (Go.method 338 125 (.agg #[h]) "Elem").run Tryz.prog w = .ok (160, .agg #[h]) w := by kernel_rfl
theorem As.methodImplements (h : Value) (w : World) : (Go.method 338 125 (.agg #[h]) "Implements").run Tryz.prog w = .ok (161, .agg #[h]) w := by kernel_rfl
theorem As.methodAssignableTo (h : Value) (w : World) : (Go.method 338 125 (.agg #[h]) "AssignableTo").run Tryz.prog w = .ok (158, .agg #[h]) w := by kernel_rfl
theorem As.elem27 (w : World) : (ReflectliteType.method ReflectliteType.elem #[.agg #[.pointer (some ⟨10, 80, none⟩)]]).run Tryz.prog w = .ok (.iface 125 (.agg #[.pointer (some ⟨10, 56, none⟩)])) w := by kernel_rfl
theorem As.implements25 (w : World) : (ReflectliteType.relation "Implements" ReflectliteType.implements_ #[.agg #[.pointer (some ⟨10, 56, none⟩)], .iface 125 (.agg #[.pointer (some ⟨10, 26, none⟩)])]).run Tryz.prog w = .ok (.bool true) w := by kernel_rfl
theorem As.typeOf25 (v : Value) (w : World) : (ReflectliteType.typeOf #[.iface 56 v]).run Tryz.prog w = .ok (.iface 125 (.agg #[.pointer (some ⟨10, 56, none⟩)])) w := by kernel_rfl
theorem As.assignable25 (w : World) : (ReflectliteType.relation "AssignableTo" ReflectliteType.assignableTo #[.agg #[.pointer (some ⟨10, 56, none⟩)], .iface 125 (.agg #[.pointer (some ⟨10, 56, none⟩)])]).run Tryz.prog w = .ok (.bool true) w := by kernel_rfl
theorem As.valueOf25 (e : Addr) (w : World) : (ReflectliteValue.unpack (.iface 56 (.pointer (some e)))).run Tryz.prog w
    = .ok (.agg #[.pointer (some ⟨10, 56, none⟩), .pointer (some ⟨w.heap.size, 0, none⟩), .int .u64 150]) (w.alloc (.cells #[.pointer (some e)] 56)) := by kernel_rfl

theorem As.elemOf27 (w : World) : (Rtype.elem? 80).run Tryz.prog w = .ok (some 56) w := by kernel_rfl
theorem As.mk25 (p : Addr) (w : World) : (ReflectliteValue.mk 56 p ReflectliteValue.flagAddr).run Tryz.prog w = .ok (.agg #[.pointer (some ⟨10, 56, none⟩), .pointer (some p), .int .u64 406]) w := by kernel_rfl
/-- (Value).Elem at the Value of a **p.E that is not nil: the Value of the *p.E variable that it points to, addressable. -/
theorem As.elemV27 (a p : Addr) (W : World) (ha : W.cell? a = some (.pointer (some p))) :
    (ReflectliteValue.method (ReflectliteValue.valueError "reflectlite.Value.Elem" 0) ReflectliteValue.elem #[.agg #[.pointer (some ⟨10, 80, none⟩), .pointer (some a), .int .u64 150]]).run Tryz.prog W
      = .ok (.agg #[.pointer (some ⟨10, 56, none⟩), .pointer (some p), .int .u64 406]) W := by
  rw [rlm]
  simp only [Sem.run_bind, As.parts27, Result.andThen]
  simp [ReflectliteValue.elem, loadVar, isAgg, underlying, Tryz.underlying80, ha, Result.andThen, As.elemOf27, As.mk25]
theorem rls (v x : Value) : ReflectliteValue.set #[v, x] = (do
    let (some (dst, a, fl), some (src, b, _)) := (← ReflectliteValue.parts v, ← ReflectliteValue.parts x)
      | unsupported (.noEntry "extern/(internal/reflectlite.Value).Set.zeroValue")
    if fl / ReflectliteValue.flagAddr % 2 == 0 then unsupported (.noEntry "extern/(internal/reflectlite.Value).Set.unaddressable")
    let val ← loadVar src b
    if ← Rtype.directlyAssignable dst src then storeVar dst a val
    else if ← Rtype.implements dst src then
      if (← Rtype.kind src) == 20 then
        match val with
        | .nilIface => unsupported (.noEntry "extern/reflectlite: a nil value of one interface type handed on as a value of another")
        | _ => storeVar dst a val
      else storeVar dst a (.iface src val)
    else panicString ("reflectlite.Set: value of type " ++ (← Rtype.spelt src) ++ " is not assignable to type " ++ (← Rtype.spelt dst))
    pure (.tuple #[])) := rfl
theorem As.parts25a (a : Addr) (w : World) : (ReflectliteValue.parts (.agg #[.pointer (some ⟨10, 56, none⟩), .pointer (some a), .int .u64 406])).run Tryz.prog w = .ok (some (56, a, 406)) w := by kernel_rfl
theorem As.parts25 (a : Addr) (w : World) : (ReflectliteValue.parts (.agg #[.pointer (some ⟨10, 56, none⟩), .pointer (some a), .int .u64 150])).run Tryz.prog w = .ok (some (56, a, 150)) w := by kernel_rfl
theorem As.direct25 (w : World) : (Rtype.directlyAssignable 56 56).run Tryz.prog w = .ok true w := by kernel_rfl
theorem As.size25 (w : World) : (sizeOf 56).run Tryz.prog w = .ok 1 w := by kernel_rfl
/-- (Value).Set: the *p.E variable at 'ta' gets what the Value's own variable 'b' holds. -/
theorem As.set25 (ta b e : Addr) (old : Value) (W : World) (hb : W.cell? b = some (.pointer (some e))) (ht : W.cell? ta = some old) (hf : W.frozen? ta = false) :
    (ReflectliteValue.set #[.agg #[.pointer (some ⟨10, 56, none⟩), .pointer (some ta), .int .u64 406], .agg #[.pointer (some ⟨10, 56, none⟩), .pointer (some b), .int .u64 150]]).run Tryz.prog W
      = .ok (.tuple #[]) (W.setCell ta (.pointer (some e))) := by
  rw [rls]
  simp only [Sem.run_bind, As.parts25a, As.parts25, Result.andThen]
  simp [ReflectliteValue.flagAddr, loadVar, isAgg, underlying, Tryz.underlying56, hb, Result.andThen, As.direct25, storeVar, Value.cells, storeCells, Addr.add]
  rw [run_store Tryz.prog W ta _ _ (by rfl)]
  simp [ht, hf]

set_option maxRecDepth 100000 in
set_option maxHeartbeats 6400000 in
theorem as_hit (e t : Addr) (old : Value) (w : World) (hg : w.cell? ⟨0, 0, none⟩ = some (.iface 125 (.agg #[.pointer (some ⟨10, 26, none⟩)]))) (ht0 : w.cell? t = some old) (hf0 : w.frozen? t = false) :
    Calls Tryz.prog 27 #[.iface 56 (.pointer (some e)), .iface 80 (.pointer (some t))] w fun ev w' => ev = .returned (.bool true) ∧ w' = ((((w.alloc (.cells #[.pointer (some t)] 80)).alloc (.cells #[.pointer (some ⟨10, 80, none⟩), .pointer (some ⟨w.heap.size, 0, none⟩), .int .u64 150] 96)).alloc (.cells #[.pointer (some ⟨10, 80, none⟩), .pointer (some ⟨w.heap.size, 0, none⟩), .int .u64 150] 96)).alloc (.cells #[.pointer (some e)] 56)).setCell t (.pointer (some e)) := by
  have h6 := @run_callFunc_extern Tryz.prog 44 _ (fun args => ReflectliteValue.unpack (args.getD 0 (.tuple #[]))) Tryz.func44 (by kernel_rfl) (by kernel_rfl) (by kernel_rfl) (by kernel_rfl)
  have h7 := @run_callFunc_extern Tryz.prog 45 _ (ReflectliteValue.methodAny (ReflectliteValue.valueError "reflectlite.Value.Type" 0) (fun t _ _ _ => ReflectliteType.toType t)) Tryz.func45 (by kernel_rfl) (by kernel_rfl) (by kernel_rfl) (by kernel_rfl)
  have h8 := @run_callFunc_extern Tryz.prog 46 _ (ReflectliteValue.method (ReflectliteValue.valueError "reflectlite.Value.IsNil" 0) ReflectliteValue.isNil) Tryz.func46 (by kernel_rfl) (by kernel_rfl) (by kernel_rfl) (by kernel_rfl)
  have h27 := @run_callFunc_extern Tryz.prog 147 _ (ReflectliteType.abiMethod fun t => do pure (.int .u8 (← Rtype.kind t))) Tryz.func147 (by kernel_rfl) (by kernel_rfl) (by kernel_rfl) (by kernel_rfl)
  have h37 := @run_callFunc_extern Tryz.prog 160 _ (ReflectliteType.method ReflectliteType.elem) Tryz.func160 (by kernel_rfl) (by kernel_rfl) (by kernel_rfl) (by kernel_rfl)
  have h38 := @run_callFunc_extern Tryz.prog 161 _ (ReflectliteType.relation "Implements" ReflectliteType.implements_) Tryz.func161 (by kernel_rfl) (by kernel_rfl) (by kernel_rfl) (by kernel_rfl)
  have h10 := @run_callFunc_extern Tryz.prog 48 _ ReflectliteType.typeOf Tryz.func48 (by kernel_rfl) (by kernel_rfl) (by kernel_rfl) (by kernel_rfl)
  have h35 := @run_callFunc_extern Tryz.prog 158 _ (ReflectliteType.relation "AssignableTo" ReflectliteType.assignableTo) Tryz.func158 (by kernel_rfl) (by kernel_rfl) (by kernel_rfl) (by kernel_rfl)
  have h11 := @run_callFunc_extern Tryz.prog 66 _ (ReflectliteValue.method (ReflectliteValue.valueError "reflectlite.Value.Elem" 0) ReflectliteValue.elem) Tryz.func66 (by kernel_rfl) (by kernel_rfl) (by kernel_rfl) (by kernel_rfl)
  have h12 := @run_callFunc_extern Tryz.prog 67 _ ReflectliteValue.set Tryz.func67 (by kernel_rfl) (by kernel_rfl) (by kernel_rfl) (by kernel_rfl)
  have tO := As.typeOf25
  have mA := As.methodAssignableTo
  have a25 := As.assignable25
  have v25 := As.valueOf25
  have f6 := As.valueOf27
  have f7 := As.type27
  have mK := As.methodKind
  have mE := As.methodElem
  have mI := As.methodImplements
  have k27 := As.kind27
  have k25 := As.kind25
  have e27 := As.elem27
  have i25 := As.implements25
  have n8 := As.isNil27 ⟨w.heap.size, 0, none⟩ t ((w.alloc (.cells #[.pointer (some t)] 80)).alloc (.cells #[.pointer (some ⟨10, 80, none⟩), .pointer (some ⟨w.heap.size, 0, none⟩), .int .u64 150] 96)) (by simp)
  have hlt : 0 < w.heap.size := by
    rcases Nat.eq_zero_or_pos w.heap.size with h0 | h
    · simp [World.cell?, h0] at hg
    · exact h
  have hg2 : ((w.alloc (.cells #[.pointer (some t)] 80)).alloc (.cells #[.pointer (some ⟨10, 80, none⟩), .pointer (some ⟨w.heap.size, 0, none⟩), .int .u64 150] 96)).cell? ⟨0, 0, none⟩ = some (.iface 125 (.agg #[.pointer (some ⟨10, 26, none⟩)])) := by
    rw [World.cell?_alloc_lt _ _ ⟨0, 0, none⟩ (by simp), World.cell?_alloc_lt _ _ ⟨0, 0, none⟩ hlt]; exact hg
  have htl : t.block < w.heap.size := by
    rcases Nat.lt_or_ge t.block w.heap.size with h | h
    · exact h
    · simp [World.cell?, Array.getElem?_eq_none h] at ht0
  have el := As.elemV27 ⟨w.heap.size, 0, none⟩ t (((w.alloc (.cells #[.pointer (some t)] 80)).alloc (.cells #[.pointer (some ⟨10, 80, none⟩), .pointer (some ⟨w.heap.size, 0, none⟩), .int .u64 150] 96)).alloc (.cells #[.pointer (some ⟨10, 80, none⟩), .pointer (some ⟨w.heap.size, 0, none⟩), .int .u64 150] 96)) (by rw [World.cell?_alloc_lt _ _ ⟨w.heap.size, 0, none⟩ (by simp; omega)]; simp)
  have st := As.set25 t ⟨w.heap.size + 1 + 1 + 1, 0, none⟩ e old ((((w.alloc (.cells #[.pointer (some t)] 80)).alloc (.cells #[.pointer (some ⟨10, 80, none⟩), .pointer (some ⟨w.heap.size, 0, none⟩), .int .u64 150] 96)).alloc (.cells #[.pointer (some ⟨10, 80, none⟩), .pointer (some ⟨w.heap.size, 0, none⟩), .int .u64 150] 96)).alloc (.cells #[.pointer (some e)] 56))
    (by rw [World.cell?_alloc_at _ _ _ _ (by simp)]; rfl)
    (by rw [World.cell?_alloc_lt _ _ t (by simp; omega), World.cell?_alloc_lt _ _ t (by simp; omega), World.cell?_alloc_lt _ _ t (by simp; omega), World.cell?_alloc_lt _ _ t htl]; exact ht0)
    (by rw [World.frozen?_alloc_old _ _ t (by simp; omega), World.frozen?_alloc_old _ _ t (by simp; omega), World.frozen?_alloc_old _ _ t (by simp; omega), World.frozen?_alloc_old _ _ t (Nat.ne_of_lt htl)]; exact hf0)
  go_enter Tryz.func27, Tryz.ntmps27
  go_wp2
  refine wp_loop_rounds 1 ?_
  rw [rounds_succ]
  go_wp2
  go_ret
  exact ⟨rfl, rfl⟩
end Go.Proofs.YtdlfjokhgmngcaaGreatDoor.Lx

/-! errors.Is at a fault's pointer and its own number. -/
namespace Go.Proofs.YtdlfjokhgmngcaaGreatDoor.Lx
open Go.RowKit Go.Extern.Stop Go.Stop Go.Extern
set_option linter.unusedVariables false
set_option linter.unusedSimpArgs false

theorem Is.typeOf (v : Value) (w : World) : (ReflectliteType.typeOf #[.iface 35 v]).run Tryz.prog w = .ok (.iface 125 (.agg #[.pointer (some ⟨10, 35, none⟩)])) w := by kernel_rfl
theorem Is.methodComparable (h : Value) (w : World) : (Go.method 338 125 (.agg #[h]) "Comparable").run Tryz.prog w = .ok (159, .agg #[h]) w := by kernel_rfl
theorem Is.compF : ∃ F : Array Value → Sem Value, (∀ args w, (callFunc 159 args).run Tryz.prog w = ((F args).run Tryz.prog w).andThen fun v w' => .ok (.value v) w') ∧ ∀ w, (F #[.agg #[.pointer (some ⟨10, 35, none⟩)]]).run Tryz.prog w = .ok (.bool true) w :=
  ⟨(Extern.ReflectliteType.method fun t => do Extern.Rtype.noPackHeld "Comparable" t; pure (.bool (← typeInfo t).comparable)),
   @run_callFunc_extern Tryz.prog 159 _ _ Tryz.func159 (by kernel_rfl) (by kernel_rfl) (by kernel_rfl) (by kernel_rfl), fun w => by kernel_rfl⟩
theorem Is.methodUnwrap (h : Value) (w : World) : (Go.method 338 56 h "Unwrap").run Tryz.prog w = .ok (153, h) w := by kernel_rfl
theorem Is.lacksIs (v : Value) (xT : TypeId) (w : World) : (Instr.typeAssert (.iface 56 v) xT 137 true).run Tryz.prog w = .ok (.tuple #[.nilIface, .bool false]) w :=
  run_typeAssert_lacksB Tryz.underlying137 (by kernel_rfl) (by kernel_rfl) v xT w
theorem Is.hasUnwrap (v : Value) (xT : TypeId) (w : World) : (Instr.typeAssert (.iface 56 v) xT 132 true).run Tryz.prog w = .ok (.tuple #[.iface 56 v, .bool true]) w :=
  run_typeAssert_hasB Tryz.underlying132 (by kernel_rfl) v xT w
theorem Is.neq (v u : Value) (w : World) : (binOp .eql 26 (.iface 56 v) (.iface 35 u)).run Tryz.prog w = .ok (.bool false) w :=
  run_eql_iface_types 56 35 v u Tryz.underlying26 (by decide) w

theorem Is.comp : (Tryz.prog.info? 35).map (·.comparable) = some true := by kernel_rfl
theorem Is.eqd (d : Nat) (v u : Value) (w : World) : (Op.equalIn (d + 1) 26 (.iface 35 v) (.iface 35 u)).run Tryz.prog w = (Op.equalIn d 35 v u).run Tryz.prog w := by
  obtain ⟨i, hi, hc⟩ := Option.map_eq_some_iff.1 Is.comp
  rw [Op.equalIn]
  simp [run_underlying Tryz.underlying26, typeInfo, hi, hc]
theorem Is.eqq (a b : Int) (w : World) : (binOp .eql 26 (.iface 35 (.int .i64 a)) (.iface 35 (.int .i64 b))).run Tryz.prog w = .ok (.bool (a == b)) w := by
  have h := Is.eqd 9999 (.int .i64 a) (.int .i64 b) w
  have h2 := run_equalIn_int (P := Tryz.prog) (w := w) 9998 35 .i64 .i64 a b Tryz.underlying35
  rw [h2] at h
  simp only [binOp]
  simp [Op.equal, Op.maxDepth, h]

set_option maxRecDepth 100000 in
theorem unwrap_any (g : Nat) (code pl : Int) (w : World) (hg : w.cell? ⟨g, 0, none⟩ = some (.int .i64 code)) :
    Calls Tryz.prog 153 #[.pointer (some ⟨g, 0, none⟩)] w fun e w' => e = .returned (.iface 35 (.int .i64 code)) ∧ w' = w := by
  go_enter Tryz.func153, Tryz.ntmps153
  go_wp2
  go_ret
  exact ⟨rfl, rfl⟩

set_option maxRecDepth 100000 in
set_option maxHeartbeats 6400000 in
theorem is_in (g : Nat) (code : Int) (w : World) (hg : w.cell? ⟨g, 0, none⟩ = some (.int .i64 code)) :
    Calls Tryz.prog 49 #[.iface 56 (.pointer (some ⟨g, 0, none⟩)), .iface 35 (.int .i64 code), .bool true] w fun e w' => e = .returned (.bool true) ∧ w' = w := by
  have h1 := Is.lacksIs
  have h2 := Is.hasUnwrap
  have h3 := Is.neq
  have h4 := Is.methodUnwrap
  go_enter Tryz.func49, Tryz.ntmps49
  go_wp2
  refine wp_loop_rounds 2 ?_
  rw [rounds_succ]
  go_wp2_with fail
  refine (unwrap_any g code 0 _ hg).mono ?_
  rintro e w' ⟨rfl, rfl⟩
  go_wp2
  rw [rounds_succ]
  have h5 := Is.eqq code code w'
  rw [show (code == code) = true from beq_self_eq_true code] at h5
  go_wp2
  go_ret
  exact ⟨rfl, rfl⟩

set_option maxRecDepth 100000 in
set_option maxHeartbeats 6400000 in
theorem is_hit (g : Nat) (code : Int) (w : World) (hg : w.cell? ⟨g, 0, none⟩ = some (.int .i64 code)) :
    Calls Tryz.prog 28 #[.iface 56 (.pointer (some ⟨g, 0, none⟩)), .iface 35 (.int .i64 code)] w fun e w' => e = .returned (.bool true) ∧ w' = w := by
  have h1 := @run_callFunc_extern Tryz.prog 48 _ ReflectliteType.typeOf Tryz.func48 (by kernel_rfl) (by kernel_rfl) (by kernel_rfl) (by kernel_rfl)
  have h2 := Is.typeOf
  have h3 := Is.methodComparable
  go_enter Tryz.func28, Tryz.ntmps28
  obtain ⟨F, h4, h5⟩ := Is.compF
  go_wp2_with fail
  refine (is_in g code _ hg).mono ?_
  rintro e w' ⟨rfl, rfl⟩
  go_wp2
  go_ret
  exact ⟨rfl, rfl⟩
end Go.Proofs.YtdlfjokhgmngcaaGreatDoor.Lx

/-! told and same, where they say yes. -/
namespace Go.Proofs.YtdlfjokhgmngcaaGreatDoor.Lx
open Go.RowKit Go.Shelf Go.Proofs.YtdlfjokhgmngcaaGreatDoorW.PrintWords
set_option linter.unusedVariables false
set_option linter.unusedSimpArgs false

/-- The variable of errors, as it is laid. -/
def LaidE (w : World) : Prop := w.cell? ⟨0, 0, none⟩ = some (.iface 125 (.agg #[.pointer (some ⟨10, 26, none⟩)]))

theorem LaidE.keep {w w' : World} (h : LaidE w) (hb : Below w.heap.size w w') : LaidE w' := by
  have hlt : 0 < w.heap.size := by
    rcases Nat.lt_or_ge 0 w.heap.size with h2 | h2
    · exact h2
    · simp [LaidE, World.cell?, Array.getElem?_eq_none h2] at h
  unfold LaidE at h ⊢
  simp only [World.cell?, hb.block _ hlt] at h ⊢
  exact h

theorem as_fr (g t : Nat) (old : Value) (T : TypeId) (w : World) (hE : LaidE w) (ht : w.heap[t]? = some (.cells #[old] T (0, 0))) :
    Calls Tryz.prog 27 #[.iface 56 (.pointer (some ⟨g, 0, none⟩)), .iface 80 (.pointer (some ⟨t, 0, none⟩))] w fun ev w' => ev = .returned (.bool true) ∧ w'.cell? ⟨t, 0, none⟩ = some (.pointer (some ⟨g, 0, none⟩)) ∧ Fr t w w' := by
  have htl := blk_lt ht
  refine (as_hit ⟨g, 0, none⟩ ⟨t, 0, none⟩ old w hE (blk_cell ht 0) (blk_frozen ht 0)).mono ?_
  rintro e w' ⟨rfl, rfl⟩
  refine ⟨rfl, ?_, ((((Fr.refl t w).alloc _).alloc _).alloc _).alloc _ |>.set _ _⟩
  exact blk_cell (blk_set (blk_alloc (blk_alloc (blk_alloc (blk_alloc ht _) _) _) _) 0 _) 0

set_option maxRecDepth 100000 in
set_option maxHeartbeats 6400000 in
theorem told_ok (p : Int) (w : World) :
    Calls Tryz.prog 13 #[.nilIface, .agg #[.int .i64 0, .int .i64 p]] w fun e w' => e = .returned (.bool true) ∧ Below w.heap.size w w' := by
  go_enter Tryz.func13, Tryz.ntmps13
  go_wp2
  go_ret
  exact ⟨rfl, (Below.refl _ w).alloc (Nat.le_refl _) _⟩

set_option maxRecDepth 100000 in
set_option maxHeartbeats 6400000 in
theorem told_hit (g : Nat) (c p : Int) (w : World) (hE : LaidE w) (hg : w.heap[g]? = some (.cells #[.int .i64 c, .int .i64 p] 37 (0, 0))) (hc : c ≠ 0) :
    Calls Tryz.prog 13 #[.iface 56 (.pointer (some ⟨g, 0, none⟩)), .agg #[.int .i64 c, .int .i64 p]] w fun e w' => e = .returned (.bool true) ∧ Below w.heap.size w w' := by
  have hgl := blk_lt hg
  have hd : decide (c = 0) = false := decide_eq_false hc
  obtain ⟨W, hW⟩ : ∃ W, (w.alloc (.cells #[.int .i64 c, .int .i64 p] 37)).alloc (.cells #[.pointer none] 56) = W := ⟨_, rfl⟩
  have hWs : W.heap.size = w.heap.size + 2 := by rw [← hW]; simp
  have hb : Below w.heap.size w W := by rw [← hW]; exact ((Below.refl _ w).alloc (Nat.le_refl _) _).alloc (by simp) _
  have ht : W.heap[w.heap.size + 1]? = some (.cells #[.pointer none] 56 (0, 0)) := by
    rw [← hW]
    have := blk_new (w.alloc (.cells #[.int .i64 c, .int .i64 p] 37)) (.cells #[.pointer none] 56)
    simpa using this
  have hf : W.heap[w.heap.size]? = some (.cells #[.int .i64 c, .int .i64 p] 37 (0, 0)) := by
    rw [← hW]; exact blk_alloc (blk_new w _) _
  have hg2 : W.heap[g]? = some (.cells #[.int .i64 c, .int .i64 p] 37 (0, 0)) := (hb.block g hgl).trans hg
  have hE2 : LaidE W := hE.keep hb
  have HB := Aside0.mk hb
  have HAs := Aside0.mk (as_fr g (w.heap.size + 1) (.pointer none) 56 W.drew hE2 ht)
  have HG := Aside0.mk hg2
  have HFf := Aside0.mk hf
  clear hg hf ht hE hE2 hg2 hb
  go_enter Tryz.func13, Tryz.ntmps13
  go_wp2
  clear hW
  have y0 : W.cell? ⟨w.heap.size, 0, none⟩ = some (.int .i64 c) := blk_cell HFf.out 0
  have hIs : ∀ w', Fr (w.heap.size + 1) W w' → Calls Tryz.prog 28 #[.iface 56 (.pointer (some ⟨g, 0, none⟩)), .iface 35 (.int .i64 c)] w' fun e w'' => e = .returned (.bool true) ∧ w'' = w' := fun w' h => is_hit g c w' (blk_cell (h.blk HG.out (by omega)) 0)
  have HIs := Aside0.mk hIs
  clear hIs
  go_region_with (first
    | (go_at_call 27; refine HAs.out.mono ?_; rintro e w1 ⟨rfl, hc1, hF1⟩; have HF1 := Aside0.mk (((Fr.refl _ W).drew).trans hF1); have k0 : w1.cell? ⟨g, 0, none⟩ = some (.int .i64 c) := blk_cell (HF1.out.blk HG.out (by omega)) 0; have k1 : w1.cell? ⟨g, 1, none⟩ = some (.int .i64 p) := blk_cell (HF1.out.blk HG.out (by omega)) 1; have k2 : w1.cell? ⟨w.heap.size, 0, none⟩ = some (.int .i64 c) := blk_cell (HF1.out.blk HFf.out (by omega)) 0; have k3 : w1.cell? ⟨w.heap.size, 1, none⟩ = some (.int .i64 p) := blk_cell (HF1.out.blk HFf.out (by omega)) 1; clear hF1)
    | (go_at_call 28; refine (HIs.out _ HF1.out).mono ?_; rintro e w2 ⟨rfl, rfl⟩))
  all_goals
    go_wp2
    go_ret
    exact ⟨rfl, HB.out.grown HF1.out.out HB.out.size (fun k e => by cases e; omega)⟩
end Go.Proofs.YtdlfjokhgmngcaaGreatDoor.Lx

/-! strings.Builder at this dump (its copyCheck ends in code that the loader refuses, which no run here comes to), and made. -/
namespace Go.Proofs.YtdlfjokhgmngcaaGreatDoor.Lx
open Go.RowKit Go.Shelf Go.Proofs.YtdlfjokhgmngcaaGreatDoorW.PrintWords
set_option linter.unusedVariables false
set_option linter.unusedSimpArgs false

theorem bl_size : (Tryz.prog.info? 48).map (·.size) = some 2 := by kernel_rfl
theorem bl_lies : liesAt Tryz.prog Tryz.prog.depth 48 (2 / Tryz.prog.cellsOf 48) 0 48 1 = true := by kernel_rfl
theorem byte_info : (Tryz.prog.info? 5).map (fun i => (i.zero, i.size, i.bytes)) = some (some (.int .u8 0), 1, 1) := by kernel_rfl
theorem byte_cells : Tryz.prog.cellsOf 5 = 1 := by kernel_rfl

set_option maxRecDepth 100000 in
set_option maxHeartbeats 3200000 in
theorem copy_used (b : Nat) (w : World) (h0 : w.cell? ⟨b, 0, none⟩ = some (.pointer (some ⟨b, 0, none⟩))) :
    Calls Tryz.prog 35 #[.pointer (some ⟨b, 0, none⟩)] w fun e w' => e = .returned (.tuple #[]) ∧ w' = w := by
  obtain ⟨j, hj, _⟩ := Option.map_eq_some_iff.1 bl_size
  go_enter Tryz.func35, Tryz.ntmps35
  have hq := Lib.run_neq_ptr_same (P := Tryz.prog) w ⟨b, 0, none⟩ Tryz.underlying46 hj
  go_wp2
  go_end0
  exact ⟨rfl, rfl⟩

set_option maxRecDepth 100000 in
set_option maxHeartbeats 3200000 in
theorem copy_fresh (b : Nat) (w : World) (h0 : w.cell? ⟨b, 0, none⟩ = some (.pointer none)) (hsh : w.shape? b = some (48, 2)) (hfz : w.frozen? ⟨b, 0, none⟩ = false) :
    Calls Tryz.prog 35 #[.pointer (some ⟨b, 0, none⟩)] w fun e w' => e = .returned (.tuple #[]) ∧ w' = w.setCell ⟨b, 0, none⟩ (.pointer (some ⟨b, 0, none⟩)) := by
  obtain ⟨j, hj, hjs⟩ := Option.map_eq_some_iff.1 bl_size
  have c1 := Lib.run_to_unsafe (P := Tryz.prog) (w := w) (src := 46) (dst := 93) ⟨b, 0, none⟩ Tryz.underlying46 Tryz.underlying93 hj (by rw [hjs]; decide) hsh (Nat.zero_lt_succ 1)
  have c2 := @run_callFunc_extern Tryz.prog 54 _ Extern.AbiNoEscape.same Tryz.func54 (by kernel_rfl) (by kernel_rfl) (by kernel_rfl) (by kernel_rfl)
  have c3 : ∀ x (w : World), (Extern.AbiNoEscape.same #[x]).run Tryz.prog w = .ok x w := fun _ _ => rfl
  have c4 := Lib.run_from_unsafe (P := Tryz.prog) (w := w) (src := 93) (dst := 46) ⟨b, 0, none⟩ Tryz.underlying93 Tryz.underlying46 hj hsh bl_lies
  go_enter Tryz.func35, Tryz.ntmps35
  go_wp2
  go_end0
  exact ⟨rfl, rfl⟩

/-- A builder in use at block b. -/
abbrev Bld (B b : Nat) (p : Value) (bs : List Value) (w : World) : Prop := Lib.BuilderAt 48 5 B b p bs w

/-- Rows of another type than bytes' stay. -/
def KeepT (b : Nat) (w w' : World) : Prop := ∀ k cells T, w.heap[k]? = some (.cells cells T (0, 0)) → T ≠ 5 → k ≠ b → w'.heap[k]? = w.heap[k]?

theorem copy_any (B b : Nat) (bs : List Value) (w : World) (h : Bld B b (.pointer none) bs w ∨ Bld B b (.pointer (some ⟨b, 0, none⟩)) bs w) :
    Calls Tryz.prog 35 #[.pointer (some ⟨b, 0, none⟩)] w fun e w' => e = .returned (.tuple #[]) ∧ Bld B b (.pointer (some ⟨b, 0, none⟩)) bs w' ∧ Below B w w' ∧ KeepT b w w' := by
  rcases h with h | h
  · obtain ⟨hB, v, hbk, hown, hne⟩ := h
    refine (copy_fresh b w (blk_cell hbk 0) (by simp [World.shape?, hbk]) (blk_frozen hbk 0)).mono ?_
    rintro e w' ⟨rfl, rfl⟩
    refine ⟨rfl, ⟨hB, v, blk_set hbk 0 _, hown.kept (grownBy_setCell' w b _) (.inr hne), hne⟩, (Below.refl B w).setCell (p := ⟨b, 0, none⟩) hB _, fun k _ _ _ _ hk => Below.heap_setCell _ _ _ k hk⟩
  · refine (copy_used b w (h.cell0)).mono ?_
    rintro e w' ⟨rfl, rfl⟩
    exact ⟨rfl, h, Below.refl B w', fun _ _ _ _ _ _ => rfl⟩

set_option maxRecDepth 100000 in
set_option maxHeartbeats 3200000 in
theorem write_any (B b : Nat) (bs : List Value) (s : ByteArray) (w : World) (h : Bld B b (.pointer none) bs w ∨ Bld B b (.pointer (some ⟨b, 0, none⟩)) bs w) (hlen : bs.length + s.size ≤ 140737488355328) (hBw : B ≤ w.heap.size) :
    Calls Tryz.prog 20 #[.pointer (some ⟨b, 0, none⟩), .string s] w fun e w' => e = .returned (.tuple #[.int .i64 s.size, .nilIface]) ∧ Bld B b (.pointer (some ⟨b, 0, none⟩)) (bs ++ Lib.strCells s) w' ∧ Below B w w' ∧ KeepT b w w' := by
  obtain ⟨i0, hi, hz0, hz1, hz2⟩ := info_parts byte_info
  have HC := Aside0.mk (copy_any B b bs w h)
  clear h
  go_enter Tryz.func20, Tryz.ntmps20
  go_wp2_with fail
  refine HC.out.mono ?_
  rintro e w1 ⟨rfl, ⟨hB, v, hbk, hown, hne⟩, hb1, hkt⟩
  have HKT := Aside0.mk hkt
  have c0 : w1.cell? ⟨b, 0, none⟩ = some (.pointer (some ⟨b, 0, none⟩)) := blk_cell hbk 0
  have c1 : w1.cell? ⟨b, 1, none⟩ = some v := blk_cell hbk 1
  have hlt := blk_lt hbk
  have HO := Aside0.mk hown
  have HB1 := Aside0.mk hb1
  have HK := Aside0.mk hbk
  have HN := Aside0.mk hne
  clear hown hb1 hbk hne hkt
  go_wp2_with (at_builtin; refine Lib.wpList_append_own_string _ rfl _ _ 22 9 rfl B 5 i0 Tryz.underlying22 Tryz.underlying9 hi hz0 hz1 hz2 _ _ _ rfl HO.out s rfl ?c3 ?c4 ?c5 ?_)
  case c3 => unfold maxLen; omega
  case c4 => omega
  case c5 => have := HB1.out.size; omega
  intro v' w2 hown' hgrow _
  have hb2 : w2.heap[b]? = some (.cells #[.pointer (some ⟨b, 0, none⟩), v] 48 (0, 0)) := by
    rw [hgrow.block b hlt (fun e => HN.out e.symm)]
    exact HK.out
  have d0 : w2.cell? ⟨b, 0, none⟩ = some (.pointer (some ⟨b, 0, none⟩)) := blk_cell hb2 0
  have d1 : w2.cell? ⟨b, 1, none⟩ = some v := blk_cell hb2 1
  have f1 : w2.frozen? ⟨b, 1, none⟩ = false := blk_frozen hb2 1
  obtain ⟨ao, n', cap, rfl⟩ : ∃ ao n' cap, v' = .slice ao n' cap := by
    rcases hown'.2 with ⟨hv, _⟩ | ⟨g, cap, cur, hv, _⟩
    · exact ⟨_, _, _, hv⟩
    · exact ⟨_, _, _, hv⟩
  have HO' := Aside0.mk hown'
  have HG := Aside0.mk hgrow
  have HK2 := Aside0.mk hb2
  clear hown' hgrow hb2
  go_wp2
  go_ret2
  refine ⟨rfl, ?_, ?_, ?_⟩
  · exact Lib.BuilderAt.put (T := 48) (e := 5) hB HK2.out (bs' := bs ++ Lib.strCells s) (by have := HO'.out; simpa [Lib.strCells_length] using this) (by decide)
  · exact (HB1.out.grown HG.out (by have := HB1.out.size; omega) (fun k hk => (HO.out.lt k hk).1)).setCell (p := ⟨b, 1, none⟩) hB _
  · intro k cells T h1 h2 h3
    have e1 := HKT.out k cells T h1 h2 h3
    have h4 : w1.heap[k]? = some (.cells cells T (0, 0)) := e1.trans h1
    refine (Below.heap_setCell _ _ _ k h3).trans ((HG.out.block k (blk_lt h4) (fun e => ?_)).trans e1)
    obtain ⟨c2, h5⟩ := own_typed HO.out k e.symm
    rw [h4] at h5
    cases h5
    exact h2 rfl

set_option maxRecDepth 100000 in
set_option maxHeartbeats 3200000 in
theorem string_any (B b : Nat) (p : Value) (l : List UInt8) (w : World) (h : Bld B b p (Lib.byteCells l) w) (h0 : l ≠ []) :
    Calls Tryz.prog 21 #[.pointer (some ⟨b, 0, none⟩)] w fun e w' => e = .returned (.string ⟨l.toArray⟩) ∧ Below B w w' := by
  obtain ⟨hB, v, hbk, hown, hne⟩ := h
  have hl0 : l.length ≠ 0 := by simpa using h0
  rw [Lib.byteCells_length] at hown
  obtain ⟨g, cap, cur, rfl, hbg, hg, hnc, hcm, hcs, htake⟩ : ∃ g cap cur, v = .slice (some ⟨g, 0, none⟩) l.length cap ∧ B ≤ g ∧ w.heap[g]? = some (.cells cur 5 (0, 0)) ∧ l.length ≤ cap ∧ cap ≤ maxLen ∧ cur.size = cap * 1 ∧ cur.toList.take (l.length * 1) = Lib.byteCells l := by
    rcases hown.2 with ⟨_, hz⟩ | ⟨g, cap, cur, hv, r⟩
    · exact absurd hz hl0
    · exact ⟨g, cap, cur, hv, r⟩
  have c1 : w.drew.cell? ⟨b, 1, none⟩ = some (.slice (some ⟨g, 0, none⟩) l.length cap) := blk_cell hbk 1
  have hSD : (Builtin.unsafeSliceData_ #[22] 87 #[.slice (some ⟨g, 0, none⟩) l.length cap]).run Tryz.prog w.drew = .ok (.pointer (some ⟨g, 0, none⟩)) w.drew :=
    Lib.run_unsafeSliceData_row _ _ _ _ _ _ (by omega)
  have hUS : (Builtin.unsafeString_ #[87, 3] 9 #[.pointer (some ⟨g, 0, none⟩), .int .i64 l.length]).run Tryz.prog w.drew = .ok (.string ⟨l.toArray⟩) (w.drew.freeze ⟨g, 0, none⟩ l.length) := by
    refine Lib.run_unsafeString_row w.drew 87 3 9 5 Tryz.underlying87 byte_cells g cur.size (by have hg' : w.drew.heap[g]? = some (.cells cur 5 (0, 0)) := hg; simp [World.shape?, hg']) l h0 (by omega) (by unfold maxLen at hcm; omega) ?_
    intro j x hx
    have := hown.cells (g := g) rfl j (.int .u8 x.toNat) (by simp [Lib.byteCells, hx])
    exact this
  have HH := Aside0.mk hbg
  clear hown hg hbk htake hne
  go_enter Tryz.func21, Tryz.ntmps21
  go_wp2
  go_region
  all_goals (go_wp2; go_ret; exact ⟨rfl, Lib.below_freeze (Below.drew (Below.refl B w)) (p := ⟨g, 0, none⟩) HH.out _⟩)

set_option maxRecDepth 100000 in
set_option maxHeartbeats 3200000 in
theorem string_nil (B b : Nat) (p : Value) (w : World) (hbk : w.heap[b]? = some (.cells #[p, .slice none 0 0] 48 (0, 0))) :
    Calls Tryz.prog 21 #[.pointer (some ⟨b, 0, none⟩)] w fun e w' => e = .returned (.string ⟨#[]⟩) ∧ Below B w w' := by
  have c1 : w.drew.cell? ⟨b, 1, none⟩ = some (.slice none 0 0) := blk_cell hbk 1
  have hSD : (Builtin.unsafeSliceData_ #[22] 87 #[.slice none 0 0]).run Tryz.prog w.drew = .ok (.pointer none) w.drew := rfl
  have hUS : (Builtin.unsafeString_ #[87, 3] 9 #[.pointer none, .int .i64 0]).run Tryz.prog w.drew = .ok (.string ⟨#[]⟩) w.drew := by kernel_rfl
  clear hbk
  go_enter Tryz.func21, Tryz.ntmps21
  go_wp2
  go_region
  all_goals (go_wp2; go_ret; exact ⟨rfl, Below.drew (Below.refl B w)⟩)
end Go.Proofs.YtdlfjokhgmngcaaGreatDoor.Lx
