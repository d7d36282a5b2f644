/-
  Several texts of this seat in one: ErrA, ErrB, ErrC, Kinds.
-/
import Derived.Test.YtimaliamidgflaaGreatDoorProg
import Derived.WalkKit
import Derived.LaidEql
import Derived.Stop.Asserts
import Derived.RowKitTokens
import Derived.Handy
import Derived.Test.YtimaliamidgflaaGreatDoorWWords
namespace Go.Proofs.YtimaliamidgflaaGreatDoor
open Go.RowKit Go.Extern.Stop Go.Stop Go.Extern

/-! types: Errno 29 · *Errno 60 · *Fault 58 · **Fault 62 · error 26 · rtype 107 -/
theorem valueOfE (t : Addr) (w : World) : (ReflectliteValue.unpack (.iface 60 (.pointer (some t)))).run Tryz.prog w
    = .ok (.agg #[.pointer (some ⟨4, 60, none⟩), .pointer (some ⟨w.heap.size, 0, none⟩), .int .u64 150]) (w.alloc (.cells #[.pointer (some t)] 60)) := by kernel_rfl
theorem valueOfF (t : Addr) (w : World) : (ReflectliteValue.unpack (.iface 62 (.pointer (some t)))).run Tryz.prog w
    = .ok (.agg #[.pointer (some ⟨4, 62, none⟩), .pointer (some ⟨w.heap.size, 0, none⟩), .int .u64 150]) (w.alloc (.cells #[.pointer (some t)] 62)) := by kernel_rfl
theorem valueOfe (c : Int) (w : World) : (ReflectliteValue.unpack (.iface 29 (.int .i64 c))).run Tryz.prog w
    = .ok (.agg #[.pointer (some ⟨4, 29, none⟩), .pointer (some ⟨w.heap.size, 0, none⟩), .int .u64 130]) (w.alloc (.cells #[.int .i64 c] 29)) := by kernel_rfl
theorem valueOff (t : Addr) (w : World) : (ReflectliteValue.unpack (.iface 58 (.pointer (some t)))).run Tryz.prog w
    = .ok (.agg #[.pointer (some ⟨4, 58, none⟩), .pointer (some ⟨w.heap.size, 0, none⟩), .int .u64 150]) (w.alloc (.cells #[.pointer (some t)] 58)) := by kernel_rfl
theorem typeE (a : Addr) (w : World) : (ReflectliteValue.methodAny (ReflectliteValue.valueError "reflectlite.Value.Type" 0) (fun t _ _ _ => ReflectliteType.toType t) #[.agg #[.pointer (some ⟨4, 60, none⟩), .pointer (some a), .int .u64 150]]).run Tryz.prog w
    = .ok (.iface 107 (.agg #[.pointer (some ⟨4, 60, none⟩)])) w := by kernel_rfl
theorem typeF (a : Addr) (w : World) : (ReflectliteValue.methodAny (ReflectliteValue.valueError "reflectlite.Value.Type" 0) (fun t _ _ _ => ReflectliteType.toType t) #[.agg #[.pointer (some ⟨4, 62, none⟩), .pointer (some a), .int .u64 150]]).run Tryz.prog w
    = .ok (.iface 107 (.agg #[.pointer (some ⟨4, 62, none⟩)])) w := by kernel_rfl
theorem kindE (w : World) : ((ReflectliteType.abiMethod fun t => (fun a : Nat => Value.int IntKind.u8 (a : Int)) <$> Rtype.kind t) #[.pointer (some ⟨4, 60, none⟩)]).run Tryz.prog w = .ok (.int .u8 22) w := by kernel_rfl
theorem kindF (w : World) : ((ReflectliteType.abiMethod fun t => (fun a : Nat => Value.int IntKind.u8 (a : Int)) <$> Rtype.kind t) #[.pointer (some ⟨4, 62, none⟩)]).run Tryz.prog w = .ok (.int .u8 22) w := by kernel_rfl
theorem kinde (w : World) : ((ReflectliteType.abiMethod fun t => (fun a : Nat => Value.int IntKind.u8 (a : Int)) <$> Rtype.kind t) #[.pointer (some ⟨4, 29, none⟩)]).run Tryz.prog w = .ok (.int .u8 2) w := by kernel_rfl
theorem kindf (w : World) : ((ReflectliteType.abiMethod fun t => (fun a : Nat => Value.int IntKind.u8 (a : Int)) <$> Rtype.kind t) #[.pointer (some ⟨4, 58, none⟩)]).run Tryz.prog w = .ok (.int .u8 22) w := by kernel_rfl

theorem rlm (z : Sem Value) (f : TypeId → Addr → Nat → Nat → Sem Value) (v : Value) :
    ReflectliteValue.method z f #[v] = (do match ← ReflectliteValue.parts v with | none => z | some (t, a, fl) => f t a fl (fl % 32)) := rfl
theorem partsE (a : Addr) (w : World) : (ReflectliteValue.parts (.agg #[.pointer (some ⟨4, 60, none⟩), .pointer (some a), .int .u64 150])).run Tryz.prog w = .ok (some (60, a, 150)) w := by kernel_rfl
theorem partsF (a : Addr) (w : World) : (ReflectliteValue.parts (.agg #[.pointer (some ⟨4, 62, none⟩), .pointer (some a), .int .u64 150])).run Tryz.prog w = .ok (some (62, a, 150)) w := by kernel_rfl
theorem isNilE (a p : Addr) (W : World) (ha : W.cell? a = some (.pointer (some p))) :
    (ReflectliteValue.method (ReflectliteValue.valueError "reflectlite.Value.IsNil" 0) ReflectliteValue.isNil #[.agg #[.pointer (some ⟨4, 60, none⟩), .pointer (some a), .int .u64 150]]).run Tryz.prog W = .ok (.bool false) W := by
  rw [rlm]
  simp only [Sem.run_bind, partsE, Result.andThen]
  simp [ReflectliteValue.isNil, loadVar, isAgg, underlying, Tryz.underlying60, ha, Result.andThen]
theorem isNilF (a p : Addr) (W : World) (ha : W.cell? a = some (.pointer (some p))) :
    (ReflectliteValue.method (ReflectliteValue.valueError "reflectlite.Value.IsNil" 0) ReflectliteValue.isNil #[.agg #[.pointer (some ⟨4, 62, none⟩), .pointer (some a), .int .u64 150]]).run Tryz.prog W = .ok (.bool false) W := by
  rw [rlm]
  simp only [Sem.run_bind, partsF, Result.andThen]
  simp [ReflectliteValue.isNil, loadVar, isAgg, underlying, Tryz.underlying62, ha, Result.andThen]

theorem elemE (w : World) : (ReflectliteType.method ReflectliteType.elem #[.agg #[.pointer (some ⟨4, 60, none⟩)]]).run Tryz.prog w = .ok (.iface 107 (.agg #[.pointer (some ⟨4, 29, none⟩)])) w := by kernel_rfl
theorem elemF (w : World) : (ReflectliteType.method ReflectliteType.elem #[.agg #[.pointer (some ⟨4, 62, none⟩)]]).run Tryz.prog w = .ok (.iface 107 (.agg #[.pointer (some ⟨4, 58, none⟩)])) w := by kernel_rfl
theorem implementse (w : World) : (ReflectliteType.relation "Implements" ReflectliteType.implements_ #[.agg #[.pointer (some ⟨4, 29, none⟩)], .iface 107 (.agg #[.pointer (some ⟨4, 26, none⟩)])]).run Tryz.prog w = .ok (.bool true) w := by kernel_rfl
theorem implementsf (w : World) : (ReflectliteType.relation "Implements" ReflectliteType.implements_ #[.agg #[.pointer (some ⟨4, 58, none⟩)], .iface 107 (.agg #[.pointer (some ⟨4, 26, none⟩)])]).run Tryz.prog w = .ok (.bool true) w := by kernel_rfl
theorem typeOfe (v : Value) (w : World) : (ReflectliteType.typeOf #[.iface 29 v]).run Tryz.prog w = .ok (.iface 107 (.agg #[.pointer (some ⟨4, 29, none⟩)])) w := by kernel_rfl
theorem typeOff (v : Value) (w : World) : (ReflectliteType.typeOf #[.iface 58 v]).run Tryz.prog w = .ok (.iface 107 (.agg #[.pointer (some ⟨4, 58, none⟩)])) w := by kernel_rfl
theorem comparablee (w : World) : (ReflectliteType.method (fun t => do Rtype.noPackHeld "Comparable" t; (fun a : TypeInfo => Value.bool a.comparable) <$> typeInfo t) #[.agg #[.pointer (some ⟨4, 29, none⟩)]]).run Tryz.prog w = .ok (.bool true) w := by kernel_rfl
theorem assignee (w : World) : (ReflectliteType.relation "AssignableTo" ReflectliteType.assignableTo #[.agg #[.pointer (some ⟨4, 29, none⟩)], .iface 107 (.agg #[.pointer (some ⟨4, 29, none⟩)])]).run Tryz.prog w = .ok (.bool true) w := by kernel_rfl
theorem assignef (w : World) : (ReflectliteType.relation "AssignableTo" ReflectliteType.assignableTo #[.agg #[.pointer (some ⟨4, 29, none⟩)], .iface 107 (.agg #[.pointer (some ⟨4, 58, none⟩)])]).run Tryz.prog w = .ok (.bool false) w := by kernel_rfl
theorem assignfe (w : World) : (ReflectliteType.relation "AssignableTo" ReflectliteType.assignableTo #[.agg #[.pointer (some ⟨4, 58, none⟩)], .iface 107 (.agg #[.pointer (some ⟨4, 29, none⟩)])]).run Tryz.prog w = .ok (.bool false) w := by kernel_rfl
theorem assignff (w : World) : (ReflectliteType.relation "AssignableTo" ReflectliteType.assignableTo #[.agg #[.pointer (some ⟨4, 58, none⟩)], .iface 107 (.agg #[.pointer (some ⟨4, 58, none⟩)])]).run Tryz.prog w = .ok (.bool true) w := by kernel_rfl
theorem elemOfE (w : World) : (Rtype.elem? 60).run Tryz.prog w = .ok (some 29) w := by kernel_rfl
theorem elemOfF (w : World) : (Rtype.elem? 62).run Tryz.prog w = .ok (some 58) w := by kernel_rfl
theorem mke (p : Addr) (w : World) : (ReflectliteValue.mk 29 p ReflectliteValue.flagAddr).run Tryz.prog w = .ok (.agg #[.pointer (some ⟨4, 29, none⟩), .pointer (some p), .int .u64 386]) w := by kernel_rfl
theorem mkf (p : Addr) (w : World) : (ReflectliteValue.mk 58 p ReflectliteValue.flagAddr).run Tryz.prog w = .ok (.agg #[.pointer (some ⟨4, 58, none⟩), .pointer (some p), .int .u64 406]) w := by kernel_rfl
theorem elemVE (a p : Addr) (W : World) (ha : W.cell? a = some (.pointer (some p))) :
    (ReflectliteValue.method (ReflectliteValue.valueError "reflectlite.Value.Elem" 0) ReflectliteValue.elem #[.agg #[.pointer (some ⟨4, 60, none⟩), .pointer (some a), .int .u64 150]]).run Tryz.prog W
      = .ok (.agg #[.pointer (some ⟨4, 29, none⟩), .pointer (some p), .int .u64 386]) W := by
  rw [rlm]
  simp only [Sem.run_bind, partsE, Result.andThen]
  simp [ReflectliteValue.elem, loadVar, isAgg, underlying, Tryz.underlying60, ha, Result.andThen, elemOfE, mke]
theorem elemVF (a p : Addr) (W : World) (ha : W.cell? a = some (.pointer (some p))) :
    (ReflectliteValue.method (ReflectliteValue.valueError "reflectlite.Value.Elem" 0) ReflectliteValue.elem #[.agg #[.pointer (some ⟨4, 62, none⟩), .pointer (some a), .int .u64 150]]).run Tryz.prog W
      = .ok (.agg #[.pointer (some ⟨4, 58, none⟩), .pointer (some p), .int .u64 406]) W := by
  rw [rlm]
  simp only [Sem.run_bind, partsF, Result.andThen]
  simp [ReflectliteValue.elem, loadVar, isAgg, underlying, Tryz.underlying62, ha, Result.andThen, elemOfF, mkf]
theorem rls (v x : Value) : ReflectliteValue.set #[v, x] = (do
    let (some (dst, a, fl), some (src, b, _)) := (← ReflectliteValue.parts v, ← ReflectliteValue.parts x)
      | unsupported (.noEntry "extern/(internal/reflectlite.Value).Set.zeroValue")
    if fl / ReflectliteValue.flagAddr % 2 == 0 then unsupported (.noEntry "extern/(internal/reflectlite.Value).Set.unaddressable")
    let val ← loadVar src b
    if ← Rtype.directlyAssignable dst src then storeVar dst a val
    else if ← Rtype.implements dst src then
      if (← Rtype.kind src) == 20 then
        match val with
        | .nilIface => unsupported (.noEntry "extern/reflectlite: a nil value of one interface type handed on as a value of another")
        | _ => storeVar dst a val
      else storeVar dst a (.iface src val)
    else panicString ("reflectlite.Set: value of type " ++ (← Rtype.spelt src) ++ " is not assignable to type " ++ (← Rtype.spelt dst))
    pure (.tuple #[])) := rfl
theorem partsea (a : Addr) (w : World) : (ReflectliteValue.parts (.agg #[.pointer (some ⟨4, 29, none⟩), .pointer (some a), .int .u64 386])).run Tryz.prog w = .ok (some (29, a, 386)) w := by kernel_rfl
theorem partse (a : Addr) (w : World) : (ReflectliteValue.parts (.agg #[.pointer (some ⟨4, 29, none⟩), .pointer (some a), .int .u64 130])).run Tryz.prog w = .ok (some (29, a, 130)) w := by kernel_rfl
theorem partsfa (a : Addr) (w : World) : (ReflectliteValue.parts (.agg #[.pointer (some ⟨4, 58, none⟩), .pointer (some a), .int .u64 406])).run Tryz.prog w = .ok (some (58, a, 406)) w := by kernel_rfl
theorem partsf (a : Addr) (w : World) : (ReflectliteValue.parts (.agg #[.pointer (some ⟨4, 58, none⟩), .pointer (some a), .int .u64 150])).run Tryz.prog w = .ok (some (58, a, 150)) w := by kernel_rfl
theorem directe (w : World) : (Rtype.directlyAssignable 29 29).run Tryz.prog w = .ok true w := by kernel_rfl
theorem directf (w : World) : (Rtype.directlyAssignable 58 58).run Tryz.prog w = .ok true w := by kernel_rfl
theorem sete (ta b : Addr) (c : Int) (old : Value) (W : World) (hb : W.cell? b = some (.int .i64 c)) (ht : W.cell? ta = some old) (hf : W.frozen? ta = false) :
    (ReflectliteValue.set #[.agg #[.pointer (some ⟨4, 29, none⟩), .pointer (some ta), .int .u64 386], .agg #[.pointer (some ⟨4, 29, none⟩), .pointer (some b), .int .u64 130]]).run Tryz.prog W
      = .ok (.tuple #[]) (W.setCell ta (.int .i64 c)) := by
  rw [rls]
  simp only [Sem.run_bind, partsea, partse, Result.andThen]
  simp [ReflectliteValue.flagAddr, loadVar, isAgg, underlying, Tryz.underlying29, hb, Result.andThen, directe, storeVar, Value.cells, storeCells, Addr.add]
  rw [run_store Tryz.prog W ta _ _ (by rfl)]
  simp [ht, hf]
theorem setf (ta b e : Addr) (old : Value) (W : World) (hb : W.cell? b = some (.pointer (some e))) (ht : W.cell? ta = some old) (hf : W.frozen? ta = false) :
    (ReflectliteValue.set #[.agg #[.pointer (some ⟨4, 58, none⟩), .pointer (some ta), .int .u64 406], .agg #[.pointer (some ⟨4, 58, none⟩), .pointer (some b), .int .u64 150]]).run Tryz.prog W
      = .ok (.tuple #[]) (W.setCell ta (.pointer (some e))) := by
  rw [rls]
  simp only [Sem.run_bind, partsfa, partsf, Result.andThen]
  simp [ReflectliteValue.flagAddr, loadVar, isAgg, underlying, Tryz.underlying58, hb, Result.andThen, directf, storeVar, Value.cells, storeCells, Addr.add]
  rw [run_store Tryz.prog W ta _ _ (by rfl)]
  simp [ht, hf]

/-! the calls of functions without a body: the model's entries -/
theorem cfV (args : Array Value) (w : World) : (callFunc 47 args).run Tryz.prog w = (Sem.run Tryz.prog ((fun args => ReflectliteValue.unpack (args.getD 0 (.tuple #[]))) args) w).andThen fun v w' => .ok (Next.value v) w' :=
  @run_callFunc_extern Tryz.prog 47 _ (fun args => ReflectliteValue.unpack (args.getD 0 (.tuple #[]))) Tryz.func47 (by kernel_rfl) (by kernel_rfl) (by kernel_rfl) (by kernel_rfl) args w
theorem cfT (args : Array Value) (w : World) : (callFunc 48 args).run Tryz.prog w = (Sem.run Tryz.prog ((ReflectliteValue.methodAny (ReflectliteValue.valueError "reflectlite.Value.Type" 0) (fun t _ _ _ => ReflectliteType.toType t)) args) w).andThen fun v w' => .ok (Next.value v) w' :=
  @run_callFunc_extern Tryz.prog 48 _ (ReflectliteValue.methodAny (ReflectliteValue.valueError "reflectlite.Value.Type" 0) (fun t _ _ _ => ReflectliteType.toType t)) Tryz.func48 (by kernel_rfl) (by kernel_rfl) (by kernel_rfl) (by kernel_rfl) args w
theorem cfN (args : Array Value) (w : World) : (callFunc 49 args).run Tryz.prog w = (Sem.run Tryz.prog ((ReflectliteValue.method (ReflectliteValue.valueError "reflectlite.Value.IsNil" 0) ReflectliteValue.isNil) args) w).andThen fun v w' => .ok (Next.value v) w' :=
  @run_callFunc_extern Tryz.prog 49 _ (ReflectliteValue.method (ReflectliteValue.valueError "reflectlite.Value.IsNil" 0) ReflectliteValue.isNil) Tryz.func49 (by kernel_rfl) (by kernel_rfl) (by kernel_rfl) (by kernel_rfl) args w
theorem cfK (args : Array Value) (w : World) : (callFunc 102 args).run Tryz.prog w = (Sem.run Tryz.prog ((ReflectliteType.abiMethod fun t => do pure (.int .u8 (← Rtype.kind t))) args) w).andThen fun v w' => .ok (Next.value v) w' :=
  @run_callFunc_extern Tryz.prog 102 _ (ReflectliteType.abiMethod fun t => do pure (.int .u8 (← Rtype.kind t))) Tryz.func102 (by kernel_rfl) (by kernel_rfl) (by kernel_rfl) (by kernel_rfl) args w
theorem cfE (args : Array Value) (w : World) : (callFunc 115 args).run Tryz.prog w = (Sem.run Tryz.prog ((ReflectliteType.method ReflectliteType.elem) args) w).andThen fun v w' => .ok (Next.value v) w' :=
  @run_callFunc_extern Tryz.prog 115 _ (ReflectliteType.method ReflectliteType.elem) Tryz.func115 (by kernel_rfl) (by kernel_rfl) (by kernel_rfl) (by kernel_rfl) args w
theorem cfI (args : Array Value) (w : World) : (callFunc 116 args).run Tryz.prog w = (Sem.run Tryz.prog ((ReflectliteType.relation "Implements" ReflectliteType.implements_) args) w).andThen fun v w' => .ok (Next.value v) w' :=
  @run_callFunc_extern Tryz.prog 116 _ (ReflectliteType.relation "Implements" ReflectliteType.implements_) Tryz.func116 (by kernel_rfl) (by kernel_rfl) (by kernel_rfl) (by kernel_rfl) args w
theorem cfO (args : Array Value) (w : World) : (callFunc 51 args).run Tryz.prog w = (Sem.run Tryz.prog (ReflectliteType.typeOf args) w).andThen fun v w' => .ok (Next.value v) w' :=
  @run_callFunc_extern Tryz.prog 51 _ ReflectliteType.typeOf Tryz.func51 (by kernel_rfl) (by kernel_rfl) (by kernel_rfl) (by kernel_rfl) args w
theorem cfA (args : Array Value) (w : World) : (callFunc 113 args).run Tryz.prog w = (Sem.run Tryz.prog ((ReflectliteType.relation "AssignableTo" ReflectliteType.assignableTo) args) w).andThen fun v w' => .ok (Next.value v) w' :=
  @run_callFunc_extern Tryz.prog 113 _ (ReflectliteType.relation "AssignableTo" ReflectliteType.assignableTo) Tryz.func113 (by kernel_rfl) (by kernel_rfl) (by kernel_rfl) (by kernel_rfl) args w
theorem cfC (args : Array Value) (w : World) : (callFunc 114 args).run Tryz.prog w = (Sem.run Tryz.prog ((ReflectliteType.method fun t => do Rtype.noPackHeld "Comparable" t; pure (.bool (← typeInfo t).comparable)) args) w).andThen fun v w' => .ok (Next.value v) w' :=
  @run_callFunc_extern Tryz.prog 114 _ (ReflectliteType.method fun t => do Rtype.noPackHeld "Comparable" t; pure (.bool (← typeInfo t).comparable)) Tryz.func114 (by kernel_rfl) (by kernel_rfl) (by kernel_rfl) (by kernel_rfl) args w
theorem cfVE (args : Array Value) (w : World) : (callFunc 66 args).run Tryz.prog w = (Sem.run Tryz.prog ((ReflectliteValue.method (ReflectliteValue.valueError "reflectlite.Value.Elem" 0) ReflectliteValue.elem) args) w).andThen fun v w' => .ok (Next.value v) w' :=
  @run_callFunc_extern Tryz.prog 66 _ (ReflectliteValue.method (ReflectliteValue.valueError "reflectlite.Value.Elem" 0) ReflectliteValue.elem) Tryz.func66 (by kernel_rfl) (by kernel_rfl) (by kernel_rfl) (by kernel_rfl) args w
theorem cfS (args : Array Value) (w : World) : (callFunc 67 args).run Tryz.prog w = (Sem.run Tryz.prog (ReflectliteValue.set args) w).andThen fun v w' => .ok (Next.value v) w' :=
  @run_callFunc_extern Tryz.prog 67 _ ReflectliteValue.set Tryz.func67 (by kernel_rfl) (by kernel_rfl) (by kernel_rfl) (by kernel_rfl) args w

/-- A fact kept from the walk. -/
structure Kp (p : Prop) : Prop where mk :: (out : p)

/-! the type assertions in errors.as, errors.is -/
theorem noAs_e (v : Value) (xT : TypeId) (w : World) : (Instr.typeAssert (.iface 29 v) xT 111 true).run Tryz.prog w = .ok (.tuple #[.nilIface, .bool false]) w := run_typeAssert_lacksB Tryz.underlying111 (by kernel_rfl) (by kernel_rfl) v xT w
theorem noAs_f (v : Value) (xT : TypeId) (w : World) : (Instr.typeAssert (.iface 58 v) xT 111 true).run Tryz.prog w = .ok (.tuple #[.nilIface, .bool false]) w := run_typeAssert_lacksB Tryz.underlying111 (by kernel_rfl) (by kernel_rfl) v xT w
theorem noIs_e (v : Value) (xT : TypeId) (w : World) : (Instr.typeAssert (.iface 29 v) xT 119 true).run Tryz.prog w = .ok (.tuple #[.nilIface, .bool false]) w := run_typeAssert_lacksB Tryz.underlying119 (by kernel_rfl) (by kernel_rfl) v xT w
theorem noIs_f (v : Value) (xT : TypeId) (w : World) : (Instr.typeAssert (.iface 58 v) xT 119 true).run Tryz.prog w = .ok (.tuple #[.nilIface, .bool false]) w := run_typeAssert_lacksB Tryz.underlying119 (by kernel_rfl) (by kernel_rfl) v xT w
theorem noUnwrap_e (v : Value) (xT : TypeId) (w : World) : (Instr.typeAssert (.iface 29 v) xT 114 true).run Tryz.prog w = .ok (.tuple #[.nilIface, .bool false]) w := run_typeAssert_lacksB Tryz.underlying114 (by kernel_rfl) (by kernel_rfl) v xT w
theorem hasUnwrap_f (v : Value) (xT : TypeId) (w : World) : (Instr.typeAssert (.iface 58 v) xT 114 true).run Tryz.prog w = .ok (.tuple #[.iface 58 v, .bool true]) w := run_typeAssert_hasB Tryz.underlying114 (by kernel_rfl) v xT w
theorem noUnwraps_e (v : Value) (xT : TypeId) (w : World) : (Instr.typeAssert (.iface 29 v) xT 116 true).run Tryz.prog w = .ok (.tuple #[.nilIface, .bool false]) w := run_typeAssert_lacksB Tryz.underlying116 (by kernel_rfl) (by kernel_rfl) v xT w
end Go.Proofs.YtimaliamidgflaaGreatDoor

namespace Go.Proofs.YtimaliamidgflaaGreatDoor
open Go.RowKit Go.Extern.Stop Go.Stop Go.Extern

/-- The variable errors.errorType holds the type 'error'. -/
def ErrT (w : World) : Prop := w.cell? ⟨0, 0, none⟩ = some (.iface 107 (.agg #[.pointer (some ⟨4, 26, none⟩)]))
theorem ErrT.lt {w : World} (h : ErrT w) : 0 < w.heap.size := World.block_lt_of_cell? w _ h
theorem ErrT.below {w w1 : World} (h : ErrT w) (hb : Below w.heap.size w w1) : ErrT w1 := (hb.cell (World.block_lt_of_cell? w _ h)).trans h

theorem as_nil (t : Value) (w : World) :
    Calls Tryz.prog 29 #[.nilIface, t] w fun e w' => e = .returned (.bool false) ∧ w' = w := by
  go_enter Tryz.func29, Tryz.ntmps29
  go_wp2
  go_ret
  exact ⟨rfl, rfl⟩

attribute [local go_sem] cfV cfT cfN cfK cfE cfI cfO cfA cfC cfVE cfS valueOfE valueOfF valueOfe valueOff typeE typeF kindE kindF kinde kindf elemE elemF implementse implementsf typeOfe typeOff assignee assignef assignfe assignff
set_option maxHeartbeats 4000000 in
set_option maxRecDepth 100000 in
theorem as_ee (c : Int) (t : Addr) (old : Value) (w : World) (hg : ErrT w) (ht0 : w.cell? t = some old) (hf0 : w.frozen? t = false) :
    Calls Tryz.prog 29 #[.iface 29 (.int .i64 c), .iface 60 (.pointer (some t))] w fun ev w' => ev = .returned (.bool true) ∧ ∃ w1, Below w.heap.size w w1 ∧ w' = w1.setCell t (.int .i64 c) := by
  have n8 := isNilE ⟨w.heap.size, 0, none⟩ t ((w.alloc (.cells #[.pointer (some t)] 60)).alloc (.cells #[.pointer (some ⟨4, 60, none⟩), .pointer (some ⟨w.heap.size, 0, none⟩), .int .u64 150] 83)) (by simp)
  have hlt := hg.lt
  have hg2 : ((w.alloc (.cells #[.pointer (some t)] 60)).alloc (.cells #[.pointer (some ⟨4, 60, none⟩), .pointer (some ⟨w.heap.size, 0, none⟩), .int .u64 150] 83)).cell? ⟨0, 0, none⟩ = some (.iface 107 (.agg #[.pointer (some ⟨4, 26, none⟩)])) :=
    hg.below (((Below.refl _ _).alloc (Nat.le_refl _) _).alloc (by simp) _)
  have htl : t.block < w.heap.size := World.block_lt_of_cell? w _ ht0
  have el := elemVE ⟨w.heap.size, 0, none⟩ t (((w.alloc (.cells #[.pointer (some t)] 60)).alloc (.cells #[.pointer (some ⟨4, 60, none⟩), .pointer (some ⟨w.heap.size, 0, none⟩), .int .u64 150] 83)).alloc (.cells #[.pointer (some ⟨4, 60, none⟩), .pointer (some ⟨w.heap.size, 0, none⟩), .int .u64 150] 83)) (by rw [World.cell?_alloc_lt _ _ ⟨w.heap.size, 0, none⟩ (by simp; omega)]; simp)
  have B4 : Below w.heap.size w ((((w.alloc (.cells #[.pointer (some t)] 60)).alloc (.cells #[.pointer (some ⟨4, 60, none⟩), .pointer (some ⟨w.heap.size, 0, none⟩), .int .u64 150] 83)).alloc (.cells #[.pointer (some ⟨4, 60, none⟩), .pointer (some ⟨w.heap.size, 0, none⟩), .int .u64 150] 83)).alloc (.cells #[.int .i64 c] 29)) :=
    ((((Below.refl _ _).alloc (Nat.le_refl _) _).alloc (by simp) _).alloc (by simp; omega) _).alloc (by simp; omega) _
  have st := sete t ⟨w.heap.size + 1 + 1 + 1, 0, none⟩ c old ((((w.alloc (.cells #[.pointer (some t)] 60)).alloc (.cells #[.pointer (some ⟨4, 60, none⟩), .pointer (some ⟨w.heap.size, 0, none⟩), .int .u64 150] 83)).alloc (.cells #[.pointer (some ⟨4, 60, none⟩), .pointer (some ⟨w.heap.size, 0, none⟩), .int .u64 150] 83)).alloc (.cells #[.int .i64 c] 29))
    (by rw [World.cell?_alloc_at _ _ _ _ (by simp)]; rfl) ((B4.cell htl).trans ht0) ((B4.frozen htl).trans hf0)
  have HB4 := Kp.mk B4
  clear B4
  have Hg := Kp.mk hg
  clear hg
  go_enter Tryz.func29, Tryz.ntmps29
  go_wp2
  refine wp_loop_rounds 1 ?_
  rw [rounds_succ]
  go_wp2
  go_ret
  exact ⟨rfl, _, HB4.out, rfl⟩

set_option maxHeartbeats 4000000 in
set_option maxRecDepth 100000 in
theorem as_ef (c : Int) (t : Addr) (old : Value) (w : World) (hg : ErrT w) (ht0 : w.cell? t = some old) (_hf0 : w.frozen? t = false) :
    Calls Tryz.prog 29 #[.iface 29 (.int .i64 c), .iface 62 (.pointer (some t))] w fun ev w' => ev = .returned (.bool false) ∧ Below w.heap.size w w' := by
  have na := noAs_e
  have nu := noUnwrap_e
  have nus := noUnwraps_e
  have n8 := isNilF ⟨w.heap.size, 0, none⟩ t ((w.alloc (.cells #[.pointer (some t)] 62)).alloc (.cells #[.pointer (some ⟨4, 62, none⟩), .pointer (some ⟨w.heap.size, 0, none⟩), .int .u64 150] 83)) (by simp)
  have hlt := hg.lt
  have B2 : Below w.heap.size w ((w.alloc (.cells #[.pointer (some t)] 62)).alloc (.cells #[.pointer (some ⟨4, 62, none⟩), .pointer (some ⟨w.heap.size, 0, none⟩), .int .u64 150] 83)) := ((Below.refl _ _).alloc (Nat.le_refl _) _).alloc (by simp) _
  have hg2 : ((w.alloc (.cells #[.pointer (some t)] 62)).alloc (.cells #[.pointer (some ⟨4, 62, none⟩), .pointer (some ⟨w.heap.size, 0, none⟩), .int .u64 150] 83)).cell? ⟨0, 0, none⟩ = some (.iface 107 (.agg #[.pointer (some ⟨4, 26, none⟩)])) :=
    hg.below B2
  have htl : t.block < w.heap.size := World.block_lt_of_cell? w _ ht0
  have B3 : Below w.heap.size w (((w.alloc (.cells #[.pointer (some t)] 62)).alloc (.cells #[.pointer (some ⟨4, 62, none⟩), .pointer (some ⟨w.heap.size, 0, none⟩), .int .u64 150] 83)).alloc (.cells #[.pointer (some ⟨4, 62, none⟩), .pointer (some ⟨w.heap.size, 0, none⟩), .int .u64 150] 83)) := B2.alloc (by simp; omega) _
  have HB3 := Kp.mk B3
  clear B3
  have Hg := Kp.mk hg
  clear hg B2
  go_enter Tryz.func29, Tryz.ntmps29
  go_wp2
  refine wp_loop_rounds 1 ?_
  rw [rounds_succ]
  go_wp2
  go_ret
  exact ⟨rfl, HB3.out⟩

set_option maxHeartbeats 4000000 in
set_option maxRecDepth 100000 in
theorem as_fe (p : Nat) (c : Int) (t : Addr) (old : Value) (w : World) (hg : ErrT w) (hp1 : w.cell? ⟨p, 1, none⟩ = some (.iface 29 (.int .i64 c))) (ht0 : w.cell? t = some old) (hf0 : w.frozen? t = false) :
    Calls Tryz.prog 29 #[.iface 58 (.pointer (some ⟨p, 0, none⟩)), .iface 60 (.pointer (some t))] w fun ev w' => ev = .returned (.bool true) ∧ ∃ w1, Below w.heap.size w w1 ∧ w' = w1.setCell t (.int .i64 c) := by
  have na := noAs_f
  have hu := hasUnwrap_f
  have n8 := isNilE ⟨w.heap.size, 0, none⟩ t ((w.alloc (.cells #[.pointer (some t)] 60)).alloc (.cells #[.pointer (some ⟨4, 60, none⟩), .pointer (some ⟨w.heap.size, 0, none⟩), .int .u64 150] 83)) (by simp)
  have hlt := hg.lt
  have B2 : Below w.heap.size w ((w.alloc (.cells #[.pointer (some t)] 60)).alloc (.cells #[.pointer (some ⟨4, 60, none⟩), .pointer (some ⟨w.heap.size, 0, none⟩), .int .u64 150] 83)) := ((Below.refl _ _).alloc (Nat.le_refl _) _).alloc (by simp) _
  have hg2 : ((w.alloc (.cells #[.pointer (some t)] 60)).alloc (.cells #[.pointer (some ⟨4, 60, none⟩), .pointer (some ⟨w.heap.size, 0, none⟩), .int .u64 150] 83)).cell? ⟨0, 0, none⟩ = some (.iface 107 (.agg #[.pointer (some ⟨4, 26, none⟩)])) :=
    hg.below B2
  have htl : t.block < w.heap.size := World.block_lt_of_cell? w _ ht0
  have B3 : Below w.heap.size w (((w.alloc (.cells #[.pointer (some t)] 60)).alloc (.cells #[.pointer (some ⟨4, 60, none⟩), .pointer (some ⟨w.heap.size, 0, none⟩), .int .u64 150] 83)).alloc (.cells #[.pointer (some ⟨4, 60, none⟩), .pointer (some ⟨w.heap.size, 0, none⟩), .int .u64 150] 83)) := B2.alloc (by simp; omega) _
  have c1 := (B3.cell (World.block_lt_of_cell? w _ hp1)).trans hp1
  have el := elemVE ⟨w.heap.size, 0, none⟩ t (((w.alloc (.cells #[.pointer (some t)] 60)).alloc (.cells #[.pointer (some ⟨4, 60, none⟩), .pointer (some ⟨w.heap.size, 0, none⟩), .int .u64 150] 83)).alloc (.cells #[.pointer (some ⟨4, 60, none⟩), .pointer (some ⟨w.heap.size, 0, none⟩), .int .u64 150] 83)) (by rw [World.cell?_alloc_lt _ _ ⟨w.heap.size, 0, none⟩ (by simp; omega)]; simp)
  have B4 : Below w.heap.size w ((((w.alloc (.cells #[.pointer (some t)] 60)).alloc (.cells #[.pointer (some ⟨4, 60, none⟩), .pointer (some ⟨w.heap.size, 0, none⟩), .int .u64 150] 83)).alloc (.cells #[.pointer (some ⟨4, 60, none⟩), .pointer (some ⟨w.heap.size, 0, none⟩), .int .u64 150] 83)).alloc (.cells #[.int .i64 c] 29)) := B3.alloc (by simp; omega) _
  have st := sete t ⟨w.heap.size + 1 + 1 + 1, 0, none⟩ c old ((((w.alloc (.cells #[.pointer (some t)] 60)).alloc (.cells #[.pointer (some ⟨4, 60, none⟩), .pointer (some ⟨w.heap.size, 0, none⟩), .int .u64 150] 83)).alloc (.cells #[.pointer (some ⟨4, 60, none⟩), .pointer (some ⟨w.heap.size, 0, none⟩), .int .u64 150] 83)).alloc (.cells #[.int .i64 c] 29))
    (by rw [World.cell?_alloc_at _ _ _ _ (by simp)]; rfl) ((B4.cell htl).trans ht0) ((B4.frozen htl).trans hf0)
  have HB4 := Kp.mk B4
  clear B4
  have HB3 := Kp.mk B3
  clear B3
  have Hg := Kp.mk hg
  clear hg B2
  go_enter Tryz.func29, Tryz.ntmps29
  go_wp2
  refine wp_loop_rounds 2 ?_
  rw [rounds_succ]
  go_wp2
  rw [rounds_succ]
  go_wp2
  go_ret
  exact ⟨rfl, _, HB4.out, rfl⟩

set_option maxHeartbeats 4000000 in
set_option maxRecDepth 100000 in
theorem as_ff (p : Nat) (t : Addr) (old : Value) (w : World) (hg : ErrT w) (ht0 : w.cell? t = some old) (hf0 : w.frozen? t = false) :
    Calls Tryz.prog 29 #[.iface 58 (.pointer (some ⟨p, 0, none⟩)), .iface 62 (.pointer (some t))] w fun ev w' => ev = .returned (.bool true) ∧ ∃ w1, Below w.heap.size w w1 ∧ w' = w1.setCell t (.pointer (some ⟨p, 0, none⟩)) := by
  have n8 := isNilF ⟨w.heap.size, 0, none⟩ t ((w.alloc (.cells #[.pointer (some t)] 62)).alloc (.cells #[.pointer (some ⟨4, 62, none⟩), .pointer (some ⟨w.heap.size, 0, none⟩), .int .u64 150] 83)) (by simp)
  have hlt := hg.lt
  have B2 : Below w.heap.size w ((w.alloc (.cells #[.pointer (some t)] 62)).alloc (.cells #[.pointer (some ⟨4, 62, none⟩), .pointer (some ⟨w.heap.size, 0, none⟩), .int .u64 150] 83)) := ((Below.refl _ _).alloc (Nat.le_refl _) _).alloc (by simp) _
  have hg2 : ((w.alloc (.cells #[.pointer (some t)] 62)).alloc (.cells #[.pointer (some ⟨4, 62, none⟩), .pointer (some ⟨w.heap.size, 0, none⟩), .int .u64 150] 83)).cell? ⟨0, 0, none⟩ = some (.iface 107 (.agg #[.pointer (some ⟨4, 26, none⟩)])) :=
    hg.below B2
  have htl : t.block < w.heap.size := World.block_lt_of_cell? w _ ht0
  have B3 : Below w.heap.size w (((w.alloc (.cells #[.pointer (some t)] 62)).alloc (.cells #[.pointer (some ⟨4, 62, none⟩), .pointer (some ⟨w.heap.size, 0, none⟩), .int .u64 150] 83)).alloc (.cells #[.pointer (some ⟨4, 62, none⟩), .pointer (some ⟨w.heap.size, 0, none⟩), .int .u64 150] 83)) := B2.alloc (by simp; omega) _
  have el := elemVF ⟨w.heap.size, 0, none⟩ t (((w.alloc (.cells #[.pointer (some t)] 62)).alloc (.cells #[.pointer (some ⟨4, 62, none⟩), .pointer (some ⟨w.heap.size, 0, none⟩), .int .u64 150] 83)).alloc (.cells #[.pointer (some ⟨4, 62, none⟩), .pointer (some ⟨w.heap.size, 0, none⟩), .int .u64 150] 83)) (by rw [World.cell?_alloc_lt _ _ ⟨w.heap.size, 0, none⟩ (by simp; omega)]; simp)
  have B4 : Below w.heap.size w ((((w.alloc (.cells #[.pointer (some t)] 62)).alloc (.cells #[.pointer (some ⟨4, 62, none⟩), .pointer (some ⟨w.heap.size, 0, none⟩), .int .u64 150] 83)).alloc (.cells #[.pointer (some ⟨4, 62, none⟩), .pointer (some ⟨w.heap.size, 0, none⟩), .int .u64 150] 83)).alloc (.cells #[.pointer (some ⟨p, 0, none⟩)] 58)) := B3.alloc (by simp; omega) _
  have st := setf t ⟨w.heap.size + 1 + 1 + 1, 0, none⟩ ⟨p, 0, none⟩ old ((((w.alloc (.cells #[.pointer (some t)] 62)).alloc (.cells #[.pointer (some ⟨4, 62, none⟩), .pointer (some ⟨w.heap.size, 0, none⟩), .int .u64 150] 83)).alloc (.cells #[.pointer (some ⟨4, 62, none⟩), .pointer (some ⟨w.heap.size, 0, none⟩), .int .u64 150] 83)).alloc (.cells #[.pointer (some ⟨p, 0, none⟩)] 58))
    (by rw [World.cell?_alloc_at _ _ _ _ (by simp)]; rfl) ((B4.cell htl).trans ht0) ((B4.frozen htl).trans hf0)
  have HB4 := Kp.mk B4
  clear B4
  have HB3 := Kp.mk B3
  clear B3
  have Hg := Kp.mk hg
  clear hg B2
  go_enter Tryz.func29, Tryz.ntmps29
  go_wp2
  refine wp_loop_rounds 1 ?_
  rw [rounds_succ]
  go_wp2
  go_ret
  exact ⟨rfl, _, HB4.out, rfl⟩

end Go.Proofs.YtimaliamidgflaaGreatDoor

namespace Go.Proofs.YtimaliamidgflaaGreatDoor
open Go.RowKit Go.Extern.Stop Go.Stop Go.Extern
attribute [local go_sem] cfO cfC typeOfe comparablee

section
variable {P : Program} (w : World)
theorem run_equalIn_iface_int (d : Nat) {ti tn : TypeId} {ms : Array (String × TypeId)} {i : TypeInfo} {k : IntKind} (a b : Int)
    (hi : P.underlying ti = some (.interface ms)) (hn : P.underlying tn = some (.int k)) (hinfo : P.info? tn = some i) (hcomp : i.comparable = true) :
    (Op.equalIn (d + 2) ti (.iface tn (.int k a)) (.iface tn (.int k b))).run P w = .ok (a == b) w := by
  simp [Op.equalIn, run_underlying hi, run_underlying hn, typeInfo, hinfo, hcomp]
theorem run_eql_iface_int {ti tn : TypeId} {ms : Array (String × TypeId)} {i : TypeInfo} {k : IntKind} (a b : Int)
    (hi : P.underlying ti = some (.interface ms)) (hn : P.underlying tn = some (.int k)) (hinfo : P.info? tn = some i) (hcomp : i.comparable = true) :
    (binOp .eql ti (.iface tn (.int k a)) (.iface tn (.int k b))).run P w = .ok (.bool (a == b)) w := by
  simp only [binOp]
  simp [Op.equal, Op.maxDepth, run_equalIn_iface_int w 9998 a b hi hn hinfo hcomp]
end
theorem eqe (w : World) (a b : Int) : (binOp .eql 26 (.iface 29 (.int .i64 a)) (.iface 29 (.int .i64 b))).run Tryz.prog w = .ok (.bool (a == b)) w := by
  obtain ⟨i, hi, hc⟩ := Option.map_eq_some_iff.1 (show (Tryz.prog.info? 29).map (fun i => i.comparable) = some true by kernel_rfl)
  exact run_eql_iface_int w a b Tryz.underlying26 Tryz.underlying29 hi hc
theorem eqfe (w : World) (p b : Value) : (binOp .eql 26 (.iface 58 p) (.iface 29 b)).run Tryz.prog w = .ok (.bool false) w :=
  run_eql_iface_types _ _ _ _ Tryz.underlying26 (by decide) w

theorem is_nil (k : Int) (w : World) :
    Calls Tryz.prog 30 #[.nilIface, .iface 29 (.int .i64 k)] w fun e w' => e = .returned (.bool false) ∧ w = w' := by
  have hnl := fun (w : World) (v : Value) => run_eql_iface_nil_left w 29 v Tryz.underlying26
  go_enter Tryz.func30, Tryz.ntmps30
  go_wp2
  go_ret
  exact ⟨rfl, rfl⟩

set_option maxHeartbeats 4000000 in
theorem is_e (c k : Int) (b : Bool) (hb : (c == k) = b) (w : World) :
    Calls Tryz.prog 30 #[.iface 29 (.int .i64 c), .iface 29 (.int .i64 k)] w fun e w' => e = .returned (.bool b) ∧ w = w' := by
  have he := eqe
  have ni := noIs_e
  have nu := noUnwrap_e
  have nus := noUnwraps_e
  cases b
  all_goals
    go_enter Tryz.func30, Tryz.ntmps30
    go_wp2
    refine wp_loop_rounds 1 ?_
    rw [rounds_succ]
    go_wp2
    go_ret
    exact ⟨rfl, rfl⟩

set_option maxHeartbeats 4000000 in
set_option maxRecDepth 100000 in
theorem is_f (p : Nat) (c k : Int) (b : Bool) (hb : (c == k) = b) (w : World) (hp1 : w.cell? ⟨p, 1, none⟩ = some (.iface 29 (.int .i64 c))) :
    Calls Tryz.prog 30 #[.iface 58 (.pointer (some ⟨p, 0, none⟩)), .iface 29 (.int .i64 k)] w fun e w' => e = .returned (.bool b) ∧ w = w' := by
  have he := eqe
  have hf := eqfe
  have ni := noIs_e
  have nif := noIs_f
  have hu := hasUnwrap_f
  have nu := noUnwrap_e
  have nus := noUnwraps_e
  cases b
  all_goals
    go_enter Tryz.func30, Tryz.ntmps30
    go_wp2
    refine wp_loop_rounds 2 ?_
    rw [rounds_succ]
    go_wp2
    rw [rounds_succ]
    go_wp2
    go_ret
    exact ⟨rfl, rfl⟩
end Go.Proofs.YtimaliamidgflaaGreatDoor

namespace Go.Proofs.YtimaliamidgflaaGreatDoor
open Go.RowKit Go.Proofs.YtimaliamidgflaaGreatDoorW.PrintWords

/-- An error of the program. -/
inductive Er where
  | none
  | code (c : Int)
  | fault (place c : Int)
  deriving DecidableEq

/-- How an error lies in memory; a Fault in a block that meets 'ok'. -/
def ErAt (w : World) (ok : Nat → Prop) (v : Value) : Er → Prop
  | .none => v = .nilIface
  | .code c => v = .iface 29 (.int .i64 c)
  | .fault a c => ∃ p, v = .iface 58 (.pointer (some ⟨p, 0, Option.none⟩)) ∧ ok p ∧ w.heap[p]? = some (.cells #[.int .i64 a, .iface 29 (.int .i64 c)] 64 (0, 0))

theorem heap_lt {w : World} {k : Nat} {o : Obj} (h : w.heap[k]? = some o) : k < w.heap.size := (Array.getElem?_eq_some_iff.1 h).1

def erK : Kd Er where
  sz := 1
  E := [64]
  K := fun w x cs => ∃ v, cs = [v] ∧ ErAt w (fun _ => True) v x
  M := fun w base ok x cs => ∃ v, cs = [v] ∧ ErAt w (fun p => ok p ∧ base ≤ p) v x
  K_len := by
    rintro w x cs ⟨v, rfl, _⟩
    rfl
  K_one := by
    rintro w x cs ⟨v, rfl, h⟩ u hu
    rw [List.mem_singleton.1 hu]
    cases x with
    | none => rw [show v = _ from h]; rfl
    | code c => rw [show v = _ from h]; rfl
    | fault a c =>
      obtain ⟨p, rfl, _⟩ := h
      rfl
  K_below := by
    rintro w w1 x cs hb ⟨v, rfl, h⟩
    refine ⟨v, rfl, ?_⟩
    cases x with
    | none => exact h
    | code c => exact h
    | fault a c =>
      obtain ⟨p, rfl, h1, h2⟩ := h
      exact ⟨p, rfl, h1, (hb.block p (heap_lt h2)).trans h2⟩
  K_of_M := by
    rintro w base ok x cs ⟨v, rfl, h⟩
    refine ⟨v, rfl, ?_⟩
    cases x with
    | none => exact h
    | code c => exact h
    | fault a c =>
      obtain ⟨p, rfl, h1, h2⟩ := h
      exact ⟨p, rfl, trivial, h2⟩
  M_mono := by
    rintro w base ok ok' x cs hok ⟨v, rfl, h⟩
    refine ⟨v, rfl, ?_⟩
    cases x with
    | none => exact h
    | code c => exact h
    | fault a c =>
      obtain ⟨p, rfl, h1, h2⟩ := h
      exact ⟨p, rfl, ⟨hok p h1.1, h1.2⟩, h2⟩
  M_bound := by
    rintro w base ok x cs ⟨v, rfl, h⟩
    refine ⟨v, rfl, ?_⟩
    cases x with
    | none => exact h
    | code c => exact h
    | fault a c =>
      obtain ⟨p, rfl, h1, h2⟩ := h
      exact ⟨p, rfl, ⟨⟨h1.1, h1.2, heap_lt h2, _, List.mem_singleton.2 rfl, _, h2⟩, h1.2⟩, h2⟩
  M_move := by
    rintro w w1 base ok x cs hm ⟨v, rfl, h⟩
    refine ⟨v, rfl, ?_⟩
    cases x with
    | none => exact h
    | code c => exact h
    | fault a c =>
      obtain ⟨p, rfl, h1, h2⟩ := h
      exact ⟨p, rfl, h1, (hm p h1.1).trans h2⟩
  M_lower := by
    rintro w base base' ok x cs hb ⟨v, rfl, h⟩
    refine ⟨v, rfl, ?_⟩
    cases x with
    | none => exact h
    | code c => exact h
    | fault a c =>
      obtain ⟨p, rfl, h1, h2⟩ := h
      exact ⟨p, rfl, ⟨h1.1, Nat.le_trans hb h1.2⟩, h2⟩

/-- What a call answers that makes memory of its own alone: x, lying in memory from the call's begin on. -/
def Gives {α : Type} (d : Kd α) (x : α) (w : World) (e : Ending) (w' : World) : Prop :=
  ∃ v, e = .returned v ∧ d.M w' w.heap.size (fun _ => True) x [v] ∧ Below w.heap.size w w'
def Gives2 {α β : Type} (d1 : Kd α) (d2 : Kd β) (x : α) (y : β) (w : World) (e : Ending) (w' : World) : Prop :=
  ∃ v1 v2, e = .returned (.tuple #[v1, v2]) ∧ d1.M w' w.heap.size (fun _ => True) x [v1] ∧ d2.M w' w.heap.size (fun _ => True) y [v2] ∧ Below w.heap.size w w'
def Gives3 {α β γ : Type} (d1 : Kd α) (d2 : Kd β) (d3 : Kd γ) (x : α) (y : β) (z : γ) (w : World) (e : Ending) (w' : World) : Prop :=
  ∃ v1 v2 v3, e = .returned (.tuple #[v1, v2, v3]) ∧ d1.M w' w.heap.size (fun _ => True) x [v1] ∧ d2.M w' w.heap.size (fun _ => True) y [v2] ∧ d3.M w' w.heap.size (fun _ => True) z [v3] ∧ Below w.heap.size w w'

theorem er_none (w : World) (b : Nat) (ok : Nat → Prop) : erK.M w b ok .none [.nilIface] := ⟨_, rfl, rfl⟩
theorem er_code (w : World) (b : Nat) (ok : Nat → Prop) (c : Int) : erK.M w b ok (.code c) [.iface 29 (.int .i64 c)] := ⟨_, rfl, rfl⟩
theorem er_fault {w : World} {b : Nat} {ok : Nat → Prop} {p : Nat} {a c : Int} (h1 : ok p) (h2 : b ≤ p) (h : w.heap[p]? = some (.cells #[.int .i64 a, .iface 29 (.int .i64 c)] 64 (0, 0))) :
    erK.M w b ok (.fault a c) [.iface 58 (.pointer (some ⟨p, 0, Option.none⟩))] := ⟨_, rfl, p, rfl, ⟨h1, h2⟩, h⟩
theorem heap_new (w : World) (o : Obj) : (w.alloc o).heap[w.heap.size]? = some o := by
  show (w.heap.push o)[w.heap.size]? = some o
  simp
theorem er_new (w : World) (a c : Int) : erK.M (w.alloc (.cells #[.int .i64 a, .iface 29 (.int .i64 c)] 64)) w.heap.size (fun _ => True) (.fault a c) [.iface 58 (.pointer (some ⟨w.heap.size, 0, Option.none⟩))] :=
  er_fault trivial (Nat.le_refl _) (heap_new _ _)
/-- A kind that takes up no memory. -/
theorem int_M (w : World) (b : Nat) (ok : Nat → Prop) (k : IntKind) (x : Int) : (Kd.int k).M w b ok x [.int k x] := rfl
theorem str_M (w : World) (b : Nat) (ok : Nat → Prop) (x : ByteArray) : Kd.string.M w b ok x [.string x] := rfl
theorem bool_M (w : World) (b : Nat) (ok : Nat → Prop) (x : Bool) : Kd.bool.M w b ok x [.bool x] := rfl

/-- A list of bytes. -/
def bytesK : Kd (List Int) := Kd.slice 5 (Kd.int .u8)
def strsK : Kd (List ByteArray) := Kd.slice 9 Kd.string
def intsK : Kd (List Int) := Kd.slice 3 (Kd.int .i64)

/-- What is kept of the package-level variables. -/
structure Env (w : World) : Prop where
  errT : ErrT w
  maxLen : ∃ m : Int, w.cell? ⟨1, 0, Option.none⟩ = some (.int .i64 m)
theorem Env.below {w w1 : World} (h : Env w) (hb : Below w.heap.size w w1) : Env w1 :=
  ⟨h.errT.below hb, let ⟨m, hm⟩ := h.maxLen; ⟨m, (hb.cell (World.block_lt_of_cell? w _ hm)).trans hm⟩⟩
/-- An element that is read, its index a count. -/
theorem at_nat {k : IntKind} {w : World} {A : Option Addr} {n : Nat} {xs : List Int} (h : (Kd.int k).C w A n xs) (i : Nat) (hi : i < n) : ∃ ad, A = some ad ∧ w.cell? (ad.add i) = some (.int k (xs.getD i 0)) := by
  obtain ⟨ad, e, hc⟩ := Kd.at_int h (i : Int) (by omega) (by omega)
  exact ⟨ad, e, by simpa [rd] using hc⟩
theorem at_natS {w : World} {A : Option Addr} {n : Nat} {xs : List ByteArray} (h : Kd.string.C w A n xs) (i : Nat) (hi : i < n) : ∃ ad, A = some ad ∧ w.cell? (ad.add i) = some (.string (xs.getD i ByteArray.empty)) := by
  obtain ⟨ad, e, hc⟩ := Kd.at_string h (i : Int) (by omega) (by omega)
  exact ⟨ad, e, by simpa [rdOf] using hc⟩
theorem take_snoc {α : Type} (xs : List α) (d : α) (k : Nat) (h : k < xs.length) : xs.take (k + 1) = xs.take k ++ [xs.getD k d] := by
  rw [List.take_succ_eq_append_getElem h]
  simp [List.getD_eq_getElem?_getD, h]
theorem getD_mem {α : Type} (xs : List α) (d : α) (k : Nat) (h : k < xs.length) : xs.getD k d ∈ xs := by
  rw [List.getD_eq_getElem?_getD, List.getElem?_eq_getElem h]
  exact List.getElem_mem h
end Go.Proofs.YtimaliamidgflaaGreatDoor
