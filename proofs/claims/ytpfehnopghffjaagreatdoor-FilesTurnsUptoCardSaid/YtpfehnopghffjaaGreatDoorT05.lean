import Derived.Test.YtpfehnopghffjaaGreatDoorT04
import Derived.Test.YtpfehnopghffjaaGreatDoorProg
import Derived.WalkKit
import Derived.LaidEql
import Derived.Stop.Asserts
import Derived.RowKitTokens
import Derived.Shelf.Strings.SlTrimAscii
import Derived.Test.YtpfehnopghffjaaGreatDoorRows
import Derived.LaidLaws
import Derived.LaidHandle
import Derived.RowKit
import Derived.ProofKit
import Derived.OpenShut
import Derived.Stop.Joined
import Derived.Deep.DeepLaidRun
import Derived.Test.YtpfehnopghffjaaGreatDoorT02
set_option linter.unusedVariables false
set_option linter.unusedSimpArgs false
set_option maxRecDepth 20000
namespace Go.Proofs.YtpfehnopghffjaaGreatDoor
open Go
section
variable {P : Program} {e : Env} {w : World} {x y : Operand} {T T' tp : TypeId} {v u : Value}
def ifaceD : TypeDesc → Bool
 | .interface _ => true
 | _ => false
theorem Ev.mkIface {d : TypeDesc} (hx : look e x = some v) (hT : P.underlying T = some d) (hd : ifaceD d = false) : Ev P e (.makeInterface T x) w (.iface T v) :=
 fun w' _ ρ hρ o ho => by
  have h1 := hρ _ _ hx
  cases d <;> first | (cases hd; done) | simp [execOp, ho, h1, Instr.makeInterface, run_underlying hT]
theorem run_equal_nil {ms : Array (String × TypeId)} (hT : P.underlying T = some (.interface ms)) (w : World) : (Op.equal T .nilIface .nilIface).run P w = .ok true w := by
 have h : ∀ d : Nat, (Op.equalIn (d + 1) T .nilIface .nilIface).run P w = .ok true w := fun d => by simp [Op.equalIn, run_underlying hT]
 simp [Op.equal, Op.maxDepth, h 9999]
theorem run_equal_iface_nil {ms : Array (String × TypeId)} (hT : P.underlying T = some (.interface ms)) (w : World) : (Op.equal T (.iface tp u) .nilIface).run P w = .ok false w := by
 have h : ∀ d : Nat, (Op.equalIn (d + 1) T (.iface tp u) .nilIface).run P w = .ok false w := fun d => by simp [Op.equalIn, run_underlying hT]
 simp [Op.equal, Op.maxDepth, h 9999]
theorem Ev.neNilN {ms : Array (String × TypeId)} (hx : look e x = some .nilIface) (hT : P.underlying T = some (.interface ms)) : Ev P e (.binOp .neq T x (.const .nilIface) T') w (.bool false) :=
 fun w' _ ρ hρ o ho => by
  have h1 := hρ _ _ hx
  have h2 : ρ (.const .nilIface) = .nilIface := hρ _ _ rfl
  simp [execOp, ho, h1, h2, eqGuard, binOp, run_equal_nil hT, Sem.run_bind]
theorem Ev.neNilS {ms : Array (String × TypeId)} (hx : look e x = some (.iface tp u)) (hT : P.underlying T = some (.interface ms)) : Ev P e (.binOp .neq T x (.const .nilIface) T') w (.bool true) :=
 fun w' _ ρ hρ o ho => by
  have h1 := hρ _ _ hx
  have h2 : ρ (.const .nilIface) = .nilIface := hρ _ _ rfl
  simp [execOp, ho, h1, h2, eqGuard, binOp, run_equal_iface_nil hT, Sem.run_bind]
end
end Go.Proofs.YtpfehnopghffjaaGreatDoor
namespace Go.Proofs.YtpfehnopghffjaaGreatDoor
open Go Go.RowKit Go.Extern.Stop Go.Stop Go.Extern
theorem as_nil (t : Value) (w : World) :
  Calls Tryz.prog 110 #[.nilIface, t] w fun e w' => e = .returned (.bool false) ∧ w' = w := by
 go_enter Tryz.func110, Tryz.ntmps110
 go_wp2
 go_ret
 exact ⟨rfl, rfl⟩
theorem as_valueOf27 (t : Addr) (w : World) : (ReflectliteValue.unpack (.iface 171 (.pointer (some t)))).run Tryz.prog w
  = .ok (.agg #[.pointer (some ⟨4, 171, none⟩), .pointer (some ⟨w.heap.size, 0, none⟩), .int .u64 150]) (w.alloc (.cells #[.pointer (some t)] 171)) := by kernel_rfl
theorem as_type27 (a : Addr) (w : World) : (ReflectliteValue.methodAny (ReflectliteValue.valueError "reflectlite.Value.Type" 0) (fun t _ _ _ => ReflectliteType.toType t) #[.agg #[.pointer (some ⟨4, 171, none⟩), .pointer (some a), .int .u64 150]]).run Tryz.prog w
  = .ok (.iface 235 (.agg #[.pointer (some ⟨4, 171, none⟩)])) w := by kernel_rfl
theorem as_methodKind (h : Value) (w : World) : (Go.method 405 235 (.agg #[h]) "Kind").run Tryz.prog w = .ok (216, h) w := by kernel_rfl
theorem as_kind27 (w : World) : ((ReflectliteType.abiMethod fun t => (fun a : Nat => Value.int IntKind.u8 (a : Int)) <$> Rtype.kind t) #[.pointer (some ⟨4, 171, none⟩)]).run Tryz.prog w = .ok (.int .u8 22) w := by kernel_rfl
theorem as_kind25 (w : World) : ((ReflectliteType.abiMethod fun t => (fun a : Nat => Value.int IntKind.u8 (a : Int)) <$> Rtype.kind t) #[.pointer (some ⟨4, 169, none⟩)]).run Tryz.prog w = .ok (.int .u8 22) w := by kernel_rfl
theorem rlm (z : Sem Value) (f : TypeId → Addr → Nat → Nat → Sem Value) (v : Value) :
  ReflectliteValue.method z f #[v] = (do match ← ReflectliteValue.parts v with | none => z | some (t, a, fl) => f t a fl (fl % 32)) := rfl
theorem as_parts27 (a : Addr) (w : World) : (ReflectliteValue.parts (.agg #[.pointer (some ⟨4, 171, none⟩), .pointer (some a), .int .u64 150])).run Tryz.prog w = .ok (some (171, a, 150)) w := by kernel_rfl
theorem as_isNil27 (a p : Addr) (W : World) (ha : W.cell? a = some (.pointer (some p))) :
  (ReflectliteValue.method (ReflectliteValue.valueError "reflectlite.Value.IsNil" 0) ReflectliteValue.isNil #[.agg #[.pointer (some ⟨4, 171, none⟩), .pointer (some a), .int .u64 150]]).run Tryz.prog W = .ok (.bool false) W := by
 rw [rlm]
 simp only [Sem.run_bind, as_parts27, Result.andThen]
 simp [ReflectliteValue.isNil, loadVar, isAgg, underlying, Tryz.underlying171, ha, Result.andThen]
theorem as_methodElem (h : Value) (w : World) : (Go.method 405 235 (.agg #[h]) "Elem").run Tryz.prog w = .ok (228, .agg #[h]) w := by kernel_rfl
theorem as_methodImplements (h : Value) (w : World) : (Go.method 405 235 (.agg #[h]) "Implements").run Tryz.prog w = .ok (229, .agg #[h]) w := by kernel_rfl
theorem as_methodAssignableTo (h : Value) (w : World) : (Go.method 405 235 (.agg #[h]) "AssignableTo").run Tryz.prog w = .ok (226, .agg #[h]) w := by kernel_rfl
theorem as_elem27 (w : World) : (ReflectliteType.method ReflectliteType.elem #[.agg #[.pointer (some ⟨4, 171, none⟩)]]).run Tryz.prog w = .ok (.iface 235 (.agg #[.pointer (some ⟨4, 169, none⟩)])) w := by kernel_rfl
theorem as_implements25 (w : World) : (ReflectliteType.relation "Implements" ReflectliteType.implements_ #[.agg #[.pointer (some ⟨4, 169, none⟩)], .iface 235 (.agg #[.pointer (some ⟨4, 94, none⟩)])]).run Tryz.prog w = .ok (.bool true) w := by kernel_rfl
theorem as_typeOf25 (v : Value) (w : World) : (ReflectliteType.typeOf #[.iface 169 v]).run Tryz.prog w = .ok (.iface 235 (.agg #[.pointer (some ⟨4, 169, none⟩)])) w := by kernel_rfl
theorem as_assignable25 (w : World) : (ReflectliteType.relation "AssignableTo" ReflectliteType.assignableTo #[.agg #[.pointer (some ⟨4, 169, none⟩)], .iface 235 (.agg #[.pointer (some ⟨4, 169, none⟩)])]).run Tryz.prog w = .ok (.bool true) w := by kernel_rfl
theorem as_valueOf25 (e : Addr) (w : World) : (ReflectliteValue.unpack (.iface 169 (.pointer (some e)))).run Tryz.prog w
  = .ok (.agg #[.pointer (some ⟨4, 169, none⟩), .pointer (some ⟨w.heap.size, 0, none⟩), .int .u64 150]) (w.alloc (.cells #[.pointer (some e)] 169)) := by kernel_rfl
theorem as_elemOf27 (w : World) : (Rtype.elem? 171).run Tryz.prog w = .ok (some 169) w := by kernel_rfl
theorem as_mk25 (p : Addr) (w : World) : (ReflectliteValue.mk 169 p ReflectliteValue.flagAddr).run Tryz.prog w = .ok (.agg #[.pointer (some ⟨4, 169, none⟩), .pointer (some p), .int .u64 406]) w := by kernel_rfl
theorem as_elemV27 (a p : Addr) (W : World) (ha : W.cell? a = some (.pointer (some p))) :
  (ReflectliteValue.method (ReflectliteValue.valueError "reflectlite.Value.Elem" 0) ReflectliteValue.elem #[.agg #[.pointer (some ⟨4, 171, none⟩), .pointer (some a), .int .u64 150]]).run Tryz.prog W
   = .ok (.agg #[.pointer (some ⟨4, 169, none⟩), .pointer (some p), .int .u64 406]) W := by
 rw [rlm]
 simp only [Sem.run_bind, as_parts27, Result.andThen]
 simp [ReflectliteValue.elem, loadVar, isAgg, underlying, Tryz.underlying171, ha, Result.andThen, as_elemOf27, as_mk25]
theorem rls (v x : Value) : ReflectliteValue.set #[v, x] = (do
  let (some (dst, a, fl), some (src, b, _)) := (← ReflectliteValue.parts v, ← ReflectliteValue.parts x)
   | unsupported (.noEntry "extern/(internal/reflectlite.Value).Set.zeroValue")
  if fl / ReflectliteValue.flagAddr % 2 == 0 then unsupported (.noEntry "extern/(internal/reflectlite.Value).Set.unaddressable")
  let val ← loadVar src b
  if ← Rtype.directlyAssignable dst src then storeVar dst a val
  else if ← Rtype.implements dst src then
   if (← Rtype.kind src) == 20 then
    match val with
    | .nilIface => unsupported (.noEntry "extern/reflectlite: a nil value of one interface type handed on as a value of another")
    | _ => storeVar dst a val
   else storeVar dst a (.iface src val)
  else panicString ("reflectlite.Set: value of type " ++ (← Rtype.spelt src) ++ " is not assignable to type " ++ (← Rtype.spelt dst))
  pure (.tuple #[])) := rfl
theorem as_parts25a (a : Addr) (w : World) : (ReflectliteValue.parts (.agg #[.pointer (some ⟨4, 169, none⟩), .pointer (some a), .int .u64 406])).run Tryz.prog w = .ok (some (169, a, 406)) w := by kernel_rfl
theorem as_parts25 (a : Addr) (w : World) : (ReflectliteValue.parts (.agg #[.pointer (some ⟨4, 169, none⟩), .pointer (some a), .int .u64 150])).run Tryz.prog w = .ok (some (169, a, 150)) w := by kernel_rfl
theorem as_direct25 (w : World) : (Rtype.directlyAssignable 169 169).run Tryz.prog w = .ok true w := by kernel_rfl
theorem as_set25 (ta b e : Addr) (old : Value) (W : World) (hb : W.cell? b = some (.pointer (some e))) (ht : W.cell? ta = some old) (hf : W.frozen? ta = false) :
  (ReflectliteValue.set #[.agg #[.pointer (some ⟨4, 169, none⟩), .pointer (some ta), .int .u64 406], .agg #[.pointer (some ⟨4, 169, none⟩), .pointer (some b), .int .u64 150]]).run Tryz.prog W
   = .ok (.tuple #[]) (W.setCell ta (.pointer (some e))) := by
 rw [rls]
 simp only [Sem.run_bind, as_parts25a, as_parts25, Result.andThen]
 simp [ReflectliteValue.flagAddr, loadVar, isAgg, underlying, Tryz.underlying169, hb, Result.andThen, as_direct25, storeVar, Value.cells, storeCells, Addr.add]
 rw [run_store Tryz.prog W ta _ _ (by rfl)]
 simp [ht, hf]
set_option maxHeartbeats 4000000 in
theorem as_hit (e t : Addr) (old : Value) (w : World) (hg : w.cell? ⟨0, 0, none⟩ = some (.iface 235 (.agg #[.pointer (some ⟨4, 94, none⟩)]))) (ht0 : w.cell? t = some old) (hf0 : w.frozen? t = false) :
  Calls Tryz.prog 110 #[.iface 169 (.pointer (some e)), .iface 171 (.pointer (some t))] w fun ev w' => ev = .returned (.bool true) ∧ w' = ((((w.alloc (.cells #[.pointer (some t)] 171)).alloc (.cells #[.pointer (some ⟨4, 171, none⟩), .pointer (some ⟨w.heap.size, 0, none⟩), .int .u64 150] 203)).alloc (.cells #[.pointer (some ⟨4, 171, none⟩), .pointer (some ⟨w.heap.size, 0, none⟩), .int .u64 150] 203)).alloc (.cells #[.pointer (some e)] 169)).setCell t (.pointer (some e)) := by
 have h6 := @run_callFunc_extern Tryz.prog 137 _ (fun args => ReflectliteValue.unpack (args.getD 0 (.tuple #[]))) Tryz.func137 (by kernel_rfl) (by kernel_rfl) (by kernel_rfl) (by kernel_rfl)
 have h7 := @run_callFunc_extern Tryz.prog 138 _ (ReflectliteValue.methodAny (ReflectliteValue.valueError "reflectlite.Value.Type" 0) (fun t _ _ _ => ReflectliteType.toType t)) Tryz.func138 (by kernel_rfl) (by kernel_rfl) (by kernel_rfl) (by kernel_rfl)
 have h8 := @run_callFunc_extern Tryz.prog 139 _ (ReflectliteValue.method (ReflectliteValue.valueError "reflectlite.Value.IsNil" 0) ReflectliteValue.isNil) Tryz.func139 (by kernel_rfl) (by kernel_rfl) (by kernel_rfl) (by kernel_rfl)
 have h27 := @run_callFunc_extern Tryz.prog 216 _ (ReflectliteType.abiMethod fun t => do pure (.int .u8 (← Rtype.kind t))) Tryz.func216 (by kernel_rfl) (by kernel_rfl) (by kernel_rfl) (by kernel_rfl)
 have h37 := @run_callFunc_extern Tryz.prog 228 _ (ReflectliteType.method ReflectliteType.elem) Tryz.func228 (by kernel_rfl) (by kernel_rfl) (by kernel_rfl) (by kernel_rfl)
 have h38 := @run_callFunc_extern Tryz.prog 229 _ (ReflectliteType.relation "Implements" ReflectliteType.implements_) Tryz.func229 (by kernel_rfl) (by kernel_rfl) (by kernel_rfl) (by kernel_rfl)
 have h10 := @run_callFunc_extern Tryz.prog 166 _ ReflectliteType.typeOf Tryz.func166 (by kernel_rfl) (by kernel_rfl) (by kernel_rfl) (by kernel_rfl)
 have h35 := @run_callFunc_extern Tryz.prog 226 _ (ReflectliteType.relation "AssignableTo" ReflectliteType.assignableTo) Tryz.func226 (by kernel_rfl) (by kernel_rfl) (by kernel_rfl) (by kernel_rfl)
 have h11 := @run_callFunc_extern Tryz.prog 167 _ (ReflectliteValue.method (ReflectliteValue.valueError "reflectlite.Value.Elem" 0) ReflectliteValue.elem) Tryz.func167 (by kernel_rfl) (by kernel_rfl) (by kernel_rfl) (by kernel_rfl)
 have h12 := @run_callFunc_extern Tryz.prog 168 _ ReflectliteValue.set Tryz.func168 (by kernel_rfl) (by kernel_rfl) (by kernel_rfl) (by kernel_rfl)
 have tO := as_typeOf25
 have mA := as_methodAssignableTo
 have a25 := as_assignable25
 have v25 := as_valueOf25
 have f6 := as_valueOf27
 have f7 := as_type27
 have mK := as_methodKind
 have mE := as_methodElem
 have mI := as_methodImplements
 have k27 := as_kind27
 have k25 := as_kind25
 have e27 := as_elem27
 have i25 := as_implements25
 have n8 := as_isNil27 ⟨w.heap.size, 0, none⟩ t ((w.alloc (.cells #[.pointer (some t)] 171)).alloc (.cells #[.pointer (some ⟨4, 171, none⟩), .pointer (some ⟨w.heap.size, 0, none⟩), .int .u64 150] 203)) (by simp)
 have hlt : 0 < w.heap.size := by
  rcases Nat.eq_zero_or_pos w.heap.size with h0 | h
  ·simp [World.cell?, h0] at hg
  ·exact h
 have hg2 : ((w.alloc (.cells #[.pointer (some t)] 171)).alloc (.cells #[.pointer (some ⟨4, 171, none⟩), .pointer (some ⟨w.heap.size, 0, none⟩), .int .u64 150] 203)).cell? ⟨0, 0, none⟩ = some (.iface 235 (.agg #[.pointer (some ⟨4, 94, none⟩)])) := by
  rw [World.cell?_alloc_lt _ _ ⟨0, 0, none⟩ (by simp), World.cell?_alloc_lt _ _ ⟨0, 0, none⟩ hlt]; exact hg
 have htl : t.block < w.heap.size := by
  rcases Nat.lt_or_ge t.block w.heap.size with h | h
  ·exact h
  ·simp [World.cell?, Array.getElem?_eq_none h] at ht0
 have el := as_elemV27 ⟨w.heap.size, 0, none⟩ t (((w.alloc (.cells #[.pointer (some t)] 171)).alloc (.cells #[.pointer (some ⟨4, 171, none⟩), .pointer (some ⟨w.heap.size, 0, none⟩), .int .u64 150] 203)).alloc (.cells #[.pointer (some ⟨4, 171, none⟩), .pointer (some ⟨w.heap.size, 0, none⟩), .int .u64 150] 203)) (by rw [World.cell?_alloc_lt _ _ ⟨w.heap.size, 0, none⟩ (by simp; omega)]; simp)
 have st := as_set25 t ⟨w.heap.size + 1 + 1 + 1, 0, none⟩ e old ((((w.alloc (.cells #[.pointer (some t)] 171)).alloc (.cells #[.pointer (some ⟨4, 171, none⟩), .pointer (some ⟨w.heap.size, 0, none⟩), .int .u64 150] 203)).alloc (.cells #[.pointer (some ⟨4, 171, none⟩), .pointer (some ⟨w.heap.size, 0, none⟩), .int .u64 150] 203)).alloc (.cells #[.pointer (some e)] 169))
  (by rw [World.cell?_alloc_at _ _ _ _ (by simp)]; rfl)
  (by rw [World.cell?_alloc_lt _ _ t (by simp; omega), World.cell?_alloc_lt _ _ t (by simp; omega), World.cell?_alloc_lt _ _ t (by simp; omega), World.cell?_alloc_lt _ _ t htl]; exact ht0)
  (by rw [World.frozen?_alloc_old _ _ t (by simp; omega), World.frozen?_alloc_old _ _ t (by simp; omega), World.frozen?_alloc_old _ _ t (by simp; omega), World.frozen?_alloc_old _ _ t (Nat.ne_of_lt htl)]; exact hf0)
 go_enter Tryz.func110, Tryz.ntmps110
 go_wp2
 refine wp_loop_rounds 1 ?_
 rw [rounds_succ]
 go_wp2
 go_ret
 exact ⟨rfl, rfl⟩
end Go.Proofs.YtpfehnopghffjaaGreatDoor
namespace Go.Proofs.YtpfehnopghffjaaGreatDoor
open Go
namespace files
def ErrV (lo : Nat) (w : World) (v : Value) (e : Int) : Prop := (e = 0 ∧ v = .nilIface) ∨ (¬ e = 0 ∧ ∃ b u, v = .iface 169 (.pointer (some ⟨b, 0, none⟩)) ∧ (lo ≤ b ∧ b < w.heap.size) ∧ Cells w b 0 [i64 e, u])
theorem ErrV.ext {S : Nat → Prop} {lo : Nat} {w w' : World} {v : Value} {e : Int} (h : ErrV lo w v e) (hx : Ext S w w') (hs : ∀ k, lo ≤ k → k < w.heap.size → ¬ S k) : ErrV lo w' v e := by
 rcases h with h | ⟨h1, b, u, h2, hb, h3⟩
 ·exact .inl h
 ·exact .inr ⟨h1, b, u, h2, ⟨hb.1, Nat.lt_of_lt_of_le hb.2 hx.size⟩, h3.ext hx (hs b hb.1 hb.2)⟩
theorem ErrV.ext0 {lo : Nat} {w w' : World} {v : Value} {e : Int} (h : ErrV lo w v e) (hx : Ext (fun _ => False) w w') : ErrV lo w' v e := h.ext hx (fun _ _ _ h => h)
theorem ErrV.low {lo lo' : Nat} {w : World} {v : Value} {e : Int} (h : ErrV lo w v e) (hl : lo' ≤ lo) : ErrV lo' w v e := by
 rcases h with h | ⟨h1, b, u, h2, hb, h3⟩
 ·exact .inl h
 ·exact .inr ⟨h1, b, u, h2, ⟨Nat.le_trans hl hb.1, hb.2⟩, h3⟩
def GOK (w : World) : Prop := w.cell? ⟨0, 0, none⟩ = some (.iface 235 (.agg #[.pointer (some ⟨4, 94, none⟩)]))
theorem GOK.ext {S : Nat → Prop} {w w' : World} (h : GOK w) (hx : Ext S w w') (hs : ¬ S 0) : GOK w' := hx.cell h hs
theorem GOK.ext0 {w w' : World} (h : GOK w) (hx : Ext (fun _ => False) w w') : GOK w' := h.ext hx (fun h => h)
theorem GOK.lt {w : World} (h : GOK w) : 0 < w.heap.size := World.block_lt_of_cell? w _ h
theorem As_nil_fn {w : World} {t : Value} : Fn Tryz.prog 110 [.nilIface, t] w (fun r w2 => r = .bool false ∧ w2 = w) :=
 ⟨fun w' => Tryz.call110 _ w', fun w' hw => (as_nil t w').mono fun ev w2 ⟨h1, h2⟩ => ⟨.bool false, w, h2 ▸ hw, h1, rfl, rfl⟩⟩
theorem As_hit_fn {w : World} {e t : Addr} {old : Value} (hg : GOK w) (ht0 : w.cell? t = some old) (hf0 : w.frozen? t = false) :
  Fn Tryz.prog 110 [.iface 169 (.pointer (some e)), .iface 171 (.pointer (some t))] w (fun r w2 => r = .bool true ∧ w2.cell? t = some (.pointer (some e)) ∧ Ext (fun k => k = t.block) w w2) := by
 refine ⟨fun w' => Tryz.call110 _ w', fun w' hw => (as_hit e t old w' ((hw.cell _).trans hg) ((hw.cell _).trans ht0) ((hw.frozen _).trans hf0)).mono ?_⟩
 rintro ev w2 ⟨rfl, rfl⟩
 have htl : t.block < w'.heap.size := World.block_lt_of_cell? w' t ((hw.cell _).trans ht0)
 refine ⟨_, _, .refl _, rfl, rfl, ?_, ?_⟩
 ·refine World.cell?_setCell_same' _ _ _ ?_
  rw [World.cell?_alloc_lt _ _ t (by simp; omega), World.cell?_alloc_lt _ _ t (by simp; omega), World.cell?_alloc_lt _ _ t (by simp; omega), World.cell?_alloc_lt _ _ t htl, (hw.cell _).trans ht0]
  rfl
 ·exact ((((Ext.same hw).trans (Ext.alloc _ _)).trans (Ext.alloc _ _)).trans (Ext.alloc _ _)).trans ((Ext.alloc _ _).trans (Ext.setCell (S := fun k => k = t.block) _ rfl _))
end files
open files
theorem Ev.neErr {P : Program} {e : Env} {w : World} {x : Operand} {T T' : TypeId} {v : Value} {lo : Nat} {n : Int} {ms : Array (String × TypeId)} (h : ErrV lo w v n) (hx : look e x = some v) (hT : P.underlying T = some (.interface ms)) : Ev P e (.binOp .neq T x (.const .nilIface) T') w (.bool (decide (¬ n = 0))) := by
 rcases h with ⟨rfl, rfl⟩ | ⟨h1, b, u, rfl, _⟩
 ·exact Ev.neNilN hx hT
 ·rw [decide_eq_true h1]; exact Ev.neNilS hx hT
theorem fail_fn {w : World} {e : Int} (he : ¬ e = 0) : Fn Tryz.prog 49 [i64 e] w (fun r w2 => ErrV w.heap.size w2 r e ∧ Ext (fun _ => False) w w2) := by
 refine Fn.enter (fun w => Tryz.call49 _ w) Tryz.func49 rfl ?_
 refine .seq (.region ?_)
 refine .p rfl rfl (.as rfl) (.nil (.code (.seq (.keep [(0, _)] ⟨rfl, trivial⟩ (.region ?_)))))
 refine .p rfl rfl (.mv rfl) (.p rfl rfl (.mv rfl) (.p rfl rfl (.mkIface rfl rfl rfl) (.p rfl rfl (.build (cs := [i64 e, .iface 29 (i64 e)]) rfl (fun _ => by kernel_rfl)) (.v rfl rfl (.box rfl) ?_))))
 rintro _ w7 ⟨rfl, N7⟩
 refine .p rfl rfl (.mkIface rfl rfl rfl) (.p rfl rfl (.as rfl) (.nil (.code ?_)))
 refine .ret _ rfl ?_
 exact ⟨.inr ⟨he, _, _, rfl, ⟨Nat.le_refl _, by rw [N7.size]; omega⟩, N7.blk.cells⟩, N7.ext⟩
theorem number_nil {w : World} : Fn Tryz.prog 44 [.nilIface] w (fun r w2 => r = i64 0 ∧ Ext (fun _ => False) w w2) := by
 refine Fn.enter (fun w => Tryz.call44 _ w) Tryz.func44 rfl ?_
 refine .seq (.region ?_)
 refine .p rfl rfl (.as rfl) (.nil (.code (.seq (.keep [(0, _)] ⟨rfl, trivial⟩ (.region ?_)))))
 refine .v rfl rfl (.alloc rfl rfl) ?_
 rintro _ w3 ⟨rfl, N3⟩
 refine .nil (.code (.seq (.seq (.region ?_))))
 refine .p rfl rfl (.mv rfl) (.p rfl rfl (.mkIface rfl rfl rfl) (.call (first := []) (captured := []) rfl rfl rfl rfl (As_nil_fn) ?_))
 rintro r6 w6 ⟨rfl, rfl⟩
 refine .nil (.code (.keep [(6, _), (3, _)] ⟨rfl, rfl, trivial⟩ (.condF rfl (.skip (.code (.seq (.keep [] trivial (.region ?_))))))))
 refine .p rfl rfl (.as rfl) (.nil (.code ?_))
 refine .ret _ rfl ?_
 exact ⟨rfl, N3.ext⟩
theorem number_some {w : World} {b : Nat} {e : Int} {u : Value} (hg : GOK w) (hb : b < w.heap.size) (hc : Cells w b 0 [i64 e, u]) : Fn Tryz.prog 44 [.iface 169 (.pointer (some ⟨b, 0, none⟩))] w (fun r w2 => r = i64 e ∧ Ext (fun _ => False) w w2) := by
 refine Fn.enter (fun w => Tryz.call44 _ w) Tryz.func44 rfl ?_
 refine .seq (.region ?_)
 refine .p rfl rfl (.as rfl) (.nil (.code (.seq (.keep [(0, _)] ⟨rfl, trivial⟩ (.region ?_)))))
 refine .v rfl rfl (.alloc rfl rfl) ?_
 rintro _ w3 ⟨rfl, N3⟩
 refine .nil (.code (.seq (.seq (.region ?_))))
 refine .p rfl rfl (.mv rfl) (.p rfl rfl (.mkIface rfl rfl rfl) (.call (first := []) (captured := []) rfl rfl rfl rfl (As_hit_fn (hg.ext0 N3.ext) (N3.blk.cell 0) (N3.blk.thawed 0 (by decide))) ?_))
 rintro r6 w6 ⟨rfl, hc6, X6⟩
 refine .nil (.code (.keep [(6, _), (3, _)] ⟨rfl, rfl, trivial⟩ (.condT rfl (.seq (.keep [(3, _)] ⟨rfl, trivial⟩ (.region ?_))))))
 refine .p rfl rfl (.load rfl rfl rfl hc6) (.p rfl rfl (.nilCheck rfl) (.p rfl rfl (.fieldAddr rfl rfl rfl rfl) (.p rfl rfl (.load rfl rfl rfl (((hc.ext N3.ext (fun h => h)).ext X6 (fun h => by have h : b = w.heap.size := h; omega)) 0 _ rfl)) (.p rfl rfl (.as rfl) (.nil (.code ?_))))))
 refine .ret _ rfl ?_
 exact ⟨rfl, N3.ext.then X6 (by rintro k rfl _; exact Nat.le_refl _)⟩
theorem number_fn {lo : Nat} {w : World} {v : Value} {e : Int} (hg : GOK w) (h : ErrV lo w v e) : Fn Tryz.prog 44 [v] w (fun r w2 => r = i64 e ∧ Ext (fun _ => False) w w2) := by
 rcases h with ⟨rfl, rfl⟩ | ⟨_, b, u, rfl, hb, hc⟩
 ·exact number_nil
 ·exact number_some hg hb.2 hc
theorem sectors_fn {w : World} {n : Int} (hn : 0 ≤ n ∧ n ≤ 9223372036854775000) : Fn Tryz.prog 89 [i64 n] w (fun r w2 => r = i64 ((n + 127) / 128) ∧ w2 = w) := by
 refine Fn.enter (fun w => Tryz.call89 _ w) Tryz.func89 rfl ?_
 refine .seq (.region ?_)
 refine .p rfl rfl (.as rfl) (.nil (.code (.seq (.keep [(0, _)] ⟨rfl, trivial⟩ (.region ?_)))))
 refine .p rfl rfl (.mv rfl) (.p rfl rfl (.add rfl rfl (by omega)) (.p rfl rfl (.sub rfl rfl (by omega)) (.p rfl rfl (.cast (.quo rfl rfl (by omega)) (show _ = i64 ((n + 127) / 128) by congr 1; first | omega | (rw [Int.tdiv_eq_ediv_of_nonneg (by omega)]; omega))) (.p rfl rfl (.as rfl) (.nil (.code ?_))))))
 refine .ret _ rfl ?_
 exact ⟨rfl, rfl⟩
end Go.Proofs.YtpfehnopghffjaaGreatDoor
namespace Go.Proofs.YtpfehnopghffjaaGreatDoor
open Go Go.RowKit files
namespace files
theorem own : ownKnob Tryz.prog.godebug = none := by kernel_rfl
theorem tyError : (List.range 305).filter (fun t => Tryz.prog.rowNamed t [101, 114, 114, 111, 114]) = [94] := by kernel_rfl
theorem tySize : Tryz.prog.types.size = 305 := by kernel_rfl
theorem tyRt : (Tryz.prog.cutTypes.find? (·.1 == "internal/reflectlite.rtype")).map (·.2) = some 235 := by kernel_rfl
theorem glErr : Tryz.prog.globalNamed "errors.errorType" = some 0 := by kernel_rfl
def L0 : List (String × DataW Unit) := [("unicode/utf8.acceptRanges", Rows.laid_unicode_utf8_acceptRanges), ("errors.errorType", Rows.laid_errors_errorType), ("unicode/utf8.first", Rows.laid_unicode_utf8_first)]
theorem gok_of_laid {W : World} (h : laidMetH Tryz.prog L0 W) : GOK W := by
 have h' : laidMet Tryz.prog [("unicode/utf8.acceptRanges", Rows.laid_unicode_utf8_acceptRanges), ("unicode/utf8.first", Rows.laid_unicode_utf8_first)] W ∧ handlesMet Tryz.prog [("errors.errorType", Rows.laid_errors_errorType)] W := h
 obtain ⟨name, u, ty, e1, e2, e3, e4, e5⟩ := h'.2 _ (List.mem_singleton.2 rfl)
 have en : name = [101, 114, 114, 111, 114] := (Option.some.inj e1).symm
 subst en
 obtain rfl := Option.some.inj (tyRt.symm.trans e2)
 have hm : ty ∈ (List.range 305).filter fun t => Tryz.prog.rowNamed t [101, 114, 114, 111, 114] := List.mem_filter.2 ⟨List.mem_range.2 (by rw [← tySize]; exact e3), e4⟩
 rw [tyError] at hm
 obtain rfl := List.mem_singleton.1 hm
 have hh : typeHandle Tryz.prog 94 = .pointer (some ⟨4, 94, none⟩) := by kernel_rfl
 rw [hh] at e5
 have := World.var?_cell glErr e5 0
 unfold GOK
 simpa using this
noncomputable def accCells : Array Value := (([128, 191, 160, 191, 128, 159, 144, 191, 128, 143] ++ List.replicate 22 0).map (fun (n : Nat) => Value.int .u8 n)).toArray
noncomputable def firstCells : Array Value := (Go.Pinned.utf8FirstZ.map (fun (n : Nat) => Value.int .u8 n)).toArray
noncomputable def putIn (cs : Array Value) : Obj → Obj
 | .cells _ t frozen => .cells cs t frozen
 | o => o
noncomputable def laidWorld (os : Os) : World :=
 { World.holding Tryz.prog os ⟨#[], #[], []⟩ with heap := (((World.holding Tryz.prog os ⟨#[], #[], []⟩).heap.modify 0 (putIn #[.iface 235 (.agg #[.pointer (some ⟨4, 94, none⟩)])])).modify 2 (putIn firstCells)).modify 3 (putIn accCells) }
theorem laid_met (os : Os) (args : Array Value) : laidMetH Tryz.prog L0 ((laidWorld os).forCall (fun _ _ => 0) ⟨#[], args, []⟩).memory :=
 laidMetH_of_parts (laidMet_of_run3 8 (by kernel_rfl) (by kernel_rfl) (by kernel_rfl)) (by kernel_rfl)
end files
end Go.Proofs.YtpfehnopghffjaaGreatDoor
namespace Go.Proofs.YtpfehnopghffjaaGreatDoor
open Go
namespace room
structure Piece where
 fr : Int
 ct : Int
deriving DecidableEq
def tPiece : Ty Piece := (tInt.pair tInt).map (fun p => (p.fr, p.ct))
theorem tPiece.val {P : Nat → Prop} {w : World} {v : Value} {p : Piece} (h : tPiece.rep P w v p) : v = .agg #[i64 p.fr, i64 p.ct] ∧ (-9223372036854775808 ≤ p.fr ∧ p.fr ≤ 9223372036854775807) ∧ -9223372036854775808 ≤ p.ct ∧ p.ct ≤ 9223372036854775807 := by
 obtain ⟨u, u', rfl, ⟨rfl, h1⟩, rfl, h2⟩ := h
 exact ⟨rfl, h1, h2⟩
theorem tPiece.mk {P : Nat → Prop} {w : World} {p : Piece} (h1 : -9223372036854775808 ≤ p.fr ∧ p.fr ≤ 9223372036854775807) (h2 : -9223372036854775808 ≤ p.ct ∧ p.ct ≤ 9223372036854775807) : tPiece.rep P w (.agg #[i64 p.fr, i64 p.ct]) p :=
 ⟨i64 p.fr, i64 p.ct, rfl, ⟨rfl, h1⟩, rfl, h2⟩
def okP (count : Int) (p : Piece) : Prop := 1 ≤ p.ct ∧ 0 ≤ p.fr ∧ p.fr < count ∧ p.ct ≤ count - p.fr
instance (count : Int) (p : Piece) : Decidable (okP count p) := by unfold okP; infer_instance
def apart (p q : Piece) : Prop := p.fr + p.ct ≤ q.fr ∨ q.fr + q.ct ≤ p.fr
instance (p q : Piece) : Decidable (apart p q) := by unfold apart; infer_instance
def mayP (count : Int) (l : List Piece) : Prop := (∀ p ∈ l, okP count p) ∧ l.Pairwise apart
instance (count : Int) (l : List Piece) : Decidable (mayP count l) := by unfold mayP; infer_instance
def checkR (count : Int) (l : List Piece) : Int :=
 if count < 0 ∨ 4096 < count then 2 else if 4096 < l.length then 4 else if mayP count l then 0 else 8
def Rises (s : List Piece) : Prop := s.Pairwise (fun p q => p.fr + p.ct ≤ q.fr)
theorem apart_symm {p q : Piece} (h : apart p q) : apart q p := h.symm
theorem check_ok {count : Int} {l : List Piece} (h : checkR count l = 0) : 0 ≤ count ∧ count ≤ 4096 ∧ l.length ≤ 4096 ∧ mayP count l := by
 unfold checkR at h
 split at h
 ·cases h
 ·split at h
  ·cases h
  ·split at h
   ·rename_i h1 h2 h3; exact ⟨by omega, by omega, by omega, h3⟩
   ·cases h
theorem rises_of : ∀ {s : List Piece}, (∀ p ∈ s, 1 ≤ p.ct) → (∀ i (h : i + 1 < s.length), s[i].fr + s[i].ct ≤ s[i + 1].fr) → Rises s
 | [], _, _ => .nil
 | [p], _, _ => List.pairwise_singleton _ _
 | p :: q :: s, hc, h => by
  have ih := rises_of (s := q :: s) (fun x hx => hc x (List.mem_cons_of_mem _ hx)) (fun i hi => by have := h (i + 1) (by simpa using hi); simpa using this)
  have h0 := h 0 (by simp)
  simp at h0
  refine .cons (fun x hx => ?_) ih
  rcases List.mem_cons.1 hx with rfl | hx
  ·exact h0
  ·have := (List.pairwise_cons.1 ih).1 x hx
   have h2 := hc q (by simp)
   omega
theorem may_of_rises {count : Int} {l s : List Piece} (hp : s.Perm l) (hok : ∀ p ∈ l, okP count p) (h : Rises s) : mayP count l := by
 refine ⟨hok, ?_⟩
 exact (hp.pairwise_iff (R := apart) (fun h => apart_symm h)).1 (h.imp (fun hpq => .inl hpq))
theorem rises_of_may {count : Int} {l s : List Piece} (hp : s.Perm l) (hm : mayP count l) (hs : s.Pairwise (fun p q => p.fr ≤ q.fr)) : Rises s := by
 have ha := (hp.pairwise_iff (R := apart) (fun h => apart_symm h)).2 hm.2
 have hok : ∀ p ∈ s, okP count p := fun p h => hm.1 p (hp.mem_iff.1 h)
 have := List.Pairwise.and_mem.1 (hs.and ha)
 refine this.imp (fun {p q} h => ?_)
 obtain ⟨h1, h2, h3, h4⟩ := h
 have := hok q h2
 unfold okP at this
 rcases h4 with h4 | h4
 ·exact h4
 ·omega
end room
end Go.Proofs.YtpfehnopghffjaaGreatDoor
namespace Go.Proofs.YtpfehnopghffjaaGreatDoor
open Go Go.Proofs Go.Shelf
def trimL_ren : Go.Shelf.Ren := ⟨fun | 119 => 193 | 120 => 182 | 137 => 192 | 151 => 171 | 152 => 181 | 160 => 118 | 197 => 170 | 217 => 199 | 224 => 194 | 225 => 195 | 227 => 144 | 228 => 169 | 231 => 142 | 232 => 143 | 233 => 145 | 234 => 146 | 235 => 147 | 236 => 148 | 260 => 180 | 266 => 201 | 271 => 172 | n => n, fun | 0 => 0 | 3 => 3 | 4 => 4 | 5 => 5 | 9 => 9 | 21 => 21 | 46 => 177 | 105 => 249 | 116 => 215 | 117 => 216 | 119 => 267 | 124 => 219 | 138 => 269 | 139 => 270 | n => n, fun | 3 => 2 | 4 => 3 | n => n⟩
theorem trimL : Lays.n160 Tryz.prog trimL_ren where
 mixed := by kernel_rfl
 f119 := Tryz.func193.trans (congrArg some (by kernel_rfl))
 f120 := Tryz.func182.trans (congrArg some (by kernel_rfl))
 f137 := Tryz.func192.trans (congrArg some (by kernel_rfl))
 f151 := Tryz.func171.trans (congrArg some (by kernel_rfl))
 f152 := Tryz.func181.trans (congrArg some (by kernel_rfl))
 f160 := Tryz.func118.trans (congrArg some (by kernel_rfl))
 f197 := Tryz.func170.trans (congrArg some (by kernel_rfl))
 f217 := Tryz.func199.trans (congrArg some (by kernel_rfl))
 f224 := Tryz.func194.trans (congrArg some (by kernel_rfl))
 f225 := Tryz.func195.trans (congrArg some (by kernel_rfl))
 f227 := Tryz.func144.trans (congrArg some (by kernel_rfl))
 f228 := Tryz.func169.trans (congrArg some (by kernel_rfl))
 f231 := Tryz.func142.trans (congrArg some (by kernel_rfl))
 f232 := Tryz.func143.trans (congrArg some (by kernel_rfl))
 f233 := Tryz.func145.trans (congrArg some (by kernel_rfl))
 f234 := Tryz.func146.trans (congrArg some (by kernel_rfl))
 f235 := Tryz.func147.trans (congrArg some (by kernel_rfl))
 f236 := Tryz.func148.trans (congrArg some (by kernel_rfl))
 f260 := Tryz.func180.trans (congrArg some (by kernel_rfl))
 f266 := Tryz.func201.trans (congrArg some (by kernel_rfl))
 f271 := Tryz.func172.trans (congrArg some (by kernel_rfl))
 t0 := Tryz.underlying0
 a0 := Tryz.isAgg0
 z0 := Tryz.sizeOf0
 v0 := Tryz.zeroValue0
 t3 := Tryz.underlying3
 a3 := Tryz.isAgg3
 z3 := Tryz.sizeOf3
 v3 := Tryz.zeroValue3
 t4 := Tryz.underlying4
 a4 := Tryz.isAgg4
 z4 := Tryz.sizeOf4
 v4 := Tryz.zeroValue4
 t5 := Tryz.underlying5
 a5 := Tryz.isAgg5
 z5 := Tryz.sizeOf5
 v5 := Tryz.zeroValue5
 t9 := Tryz.underlying9
 a9 := Tryz.isAgg9
 z9 := Tryz.sizeOf9
 v9 := Tryz.zeroValue9
 t21 := Tryz.underlying21
 a21 := Tryz.isAgg21
 z21 := Tryz.sizeOf21
 v21 := Tryz.zeroValue21
 t46 := Tryz.underlying177
 a46 := Tryz.isAgg177
 z46 := Tryz.sizeOf177
 v46 := Tryz.zeroValue177
 t105 := Tryz.underlying249
 a105 := Tryz.isAgg249
 z105 := Tryz.sizeOf249
 v105 := Tryz.zeroValue249
 t116 := Tryz.underlying215
 a116 := Tryz.isAgg215
 z116 := Tryz.sizeOf215
 t117 := Tryz.underlying216
 a117 := Tryz.isAgg216
 z117 := Tryz.sizeOf216
 v117 := Tryz.zeroValue216
 t119 := Tryz.underlying267
 a119 := Tryz.isAgg267
 z119 := Tryz.sizeOf267
 t124 := Tryz.underlying219
 a124 := Tryz.isAgg219
 z124 := Tryz.sizeOf219
 v124 := Tryz.zeroValue219
 t138 := Tryz.underlying269
 a138 := Tryz.isAgg269
 z138 := Tryz.sizeOf269
 v138 := Tryz.zeroValue269
 t139 := Tryz.underlying270
 a139 := Tryz.isAgg270
 z139 := Tryz.sizeOf270
 v139 := Tryz.zeroValue270
 g3 := by kernel_rfl
 g4 := by kernel_rfl
namespace files
def cutN : Bs := [97, 98, 99, 100, 101, 102, 103, 104, 105, 106, 107, 108, 109, 110, 111, 112, 113, 114, 115, 116, 117, 118, 119, 120, 121, 122, 48, 49, 50, 51, 52, 53, 54, 55, 56, 57, 45, 95, 46]
def nameC (c : UInt8) : Bool := decide (97 ≤ c.toNat ∧ c.toNat ≤ 122 ∨ 48 ≤ c.toNat ∧ c.toNat ≤ 57 ∨ c.toNat = 45 ∨ c.toNat = 95 ∨ c.toNat = 46)
theorem cutN_all : ∀ n, n < 256 → cutN.contains (UInt8.ofNat n) = nameC (UInt8.ofNat n) := by decide +kernel
theorem cutN_eq (c : UInt8) : cutN.contains c = nameC c := by
 have := cutN_all c.toNat c.toNat_lt
 rwa [UInt8.ofNat_toNat] at this
def nameF (s : Bs) : Bool := decide (1 ≤ s.length ∧ s.length ≤ 32) && s.all nameC
theorem dropWhile_nil {p : UInt8 → Bool} : ∀ {l : Bs}, l.dropWhile p = [] ↔ l.all p = true
 | [] => by simp
 | c :: l => by
  rw [List.dropWhile_cons, List.all_cons]
  by_cases h : p c = true
  ·rw [if_pos h, dropWhile_nil (l := l), h, Bool.true_and]
  ·rw [if_neg h]
   simp [h]
theorem dropWhile_all {p : UInt8 → Bool} : ∀ l : Bs, (l.dropWhile p).all p = l.all p
 | [] => rfl
 | c :: l => by
  rw [List.dropWhile_cons]
  by_cases h : p c = true
  ·rw [if_pos h, dropWhile_all l, List.all_cons, h, Bool.true_and]
  ·rw [if_neg h]
theorem trim_nil {l : Bs} : Lib.trimS l cutN = [] ↔ l.all nameC = true := by
 have e : (fun c => cutN.contains c) = nameC := funext cutN_eq
 unfold Lib.trimS Lib.trimLeftS Lib.trimRightS
 rw [e, dropWhile_nil, List.all_reverse, dropWhile_all, List.all_reverse]
theorem trim_dec (l : Bs) : decide (Lib.trimS l cutN = []) = l.all nameC := by
 by_cases h : l.all nameC = true
 ·rw [h]; exact decide_eq_true (trim_nil.2 h)
 ·rw [Bool.eq_false_iff.2 h]; exact decide_eq_false (fun h2 => h (trim_nil.1 h2))
attribute [local irreducible] Lib.trimS
theorem Trim_fn {w : World} {s : Bs} (hs : s.length < Lim) : Fn Tryz.prog 118 [str s, str cutN] w (fun r w2 => r = str (Lib.trimS s cutN) ∧ Ext (fun _ => False) w w2) := by
 refine ⟨fun w' => Tryz.call118 _ w', fun w' hw => ?_⟩
 refine (Any.strings_Trim_laid trimL (by kernel_rfl) (bs s) ⟨#[97, 98, 99, 100, 101, 102, 103, 104, 105, 106, 107, 108, 109, 110, 111, 112, 113, 114, 115, 116, 117, 118, 119, 120, 121, 122, 48, 49, 50, 51, 52, 53, 54, 55, 56, 57, 45, 95, 46]⟩ w' (by rw [bs_size]; simp only [Lim] at hs; omega) (by decide) (ascii_of_all (by decide))).mono ?_
 rintro ev w2 ⟨rfl, hB⟩
 refine ⟨_, _, .refl _, rfl, ?_, (Ext.same hw).trans ⟨hB.os, hB.tape, hB.output, hB.size, fun k hk _ => hB.block k hk⟩⟩
 have h1 : (bs s).data.toList = s := rfl
 rw [h1]
 rfl
end files
open files
theorem name_fn {w : World} {s : Bs} (hs : s.length < Lim) : Fn Tryz.prog 66 [str s] w (fun r w2 => r = .bool (nameF s) ∧ Ext (fun _ => False) w w2) := by
 refine Fn.enter (fun w => Tryz.call66 _ w) Tryz.func66 rfl ?_
 refine .seq (.region ?_)
 refine .p rfl rfl (.as rfl) (.nil (.code (.seq (.keep [(0, _)] ⟨rfl, trivial⟩ (.region ?_)))))
 refine .p rfl rfl (.mv rfl) (.p rfl rfl (.lenS rfl rfl) (.p rfl rfl (.gt rfl rfl) (.p rfl rfl (.mv rfl) ?_)))
 refine .caseD 6 rfl (fun c6 => ?_) (fun c6 => ?_)
 ·refine .p rfl rfl (.mv rfl) (.p rfl rfl (.lenS rfl rfl) (.p rfl rfl (.le rfl rfl) (.p rfl rfl (.pickT rfl rfl) (.p rfl rfl (.mv rfl) ?_))))
  refine .caseD 11 rfl (fun c11 => ?_) (fun c11 => ?_)
  ·refine .p rfl rfl (.mv rfl) (.call (first := []) (captured := []) rfl rfl rfl rfl (Trim_fn hs) ?_)
   rintro r13 w13 ⟨rfl, X13⟩
   refine .p rfl rfl (.eqS rfl rfl) (.p rfl rfl (.pickT rfl rfl) (.p rfl rfl (.as rfl) (.nil (.code ?_))))
   refine .ret _ rfl ?_
   refine ⟨?_, X13⟩
   show Value.bool (decide (Lib.trimS s cutN = [])) = Value.bool (nameF s)
   rw [trim_dec, nameF, decide_eq_true (by omega), Bool.true_and]
  ·refine .skip rfl rfl (.skip rfl rfl (.skip rfl rfl (.p rfl rfl (.pickF rfl rfl) (.p rfl rfl (.as rfl) (.nil (.code ?_))))))
   refine .ret _ rfl ?_
   refine ⟨?_, .refl _⟩
   show Value.bool false = Value.bool (nameF s)
   rw [nameF, decide_eq_false (by omega), Bool.false_and]
 ·refine .skip rfl rfl (.skip rfl rfl (.skip rfl rfl (.p rfl rfl (.pickF rfl rfl) (.p rfl rfl (.mv rfl) (.skip rfl rfl (.skip rfl rfl (.skip rfl rfl (.p rfl rfl (.pickF rfl rfl) (.p rfl rfl (.as rfl) (.nil (.code ?_)))))))))))
  refine .ret _ rfl ?_
  refine ⟨?_, .refl _⟩
  show Value.bool false = Value.bool (nameF s)
  rw [nameF, decide_eq_false (by omega), Bool.false_and]
end Go.Proofs.YtpfehnopghffjaaGreatDoor
namespace Go.Proofs.YtpfehnopghffjaaGreatDoor
open Go
def smallK : Nat → Nat → Bs
 | 0, _ => []
 | f + 1, n => if n ≤ 127 then [UInt8.ofNat n] else UInt8.ofNat (n % 128 + 128) :: smallK f (n / 128)
def smallF (n : Nat) : Bs := smallK 10 n
def textF (s : Bs) : Bs := smallF s.length ++ s
theorem smallK_length : ∀ f n, (smallK f n).length ≤ f
 | 0, _ => by simp [smallK]
 | f + 1, n => by
  unfold smallK
  split
  ·simp
  ·have := smallK_length f (n / 128)
   simp
   omega
theorem smallF_length (n : Nat) : (smallF n).length ≤ 10 := smallK_length 10 n
theorem or128 : ∀ n, n < 256 → UInt8.ofNat n ||| 128 = UInt8.ofNat (n % 128 + 128) := by decide +kernel
theorem or128' (n : Nat) : UInt8.ofNat n ||| 128 = UInt8.ofNat (n % 128 + 128) := by
 have h := or128 (n % 256) (Nat.mod_lt _ (by decide))
 rw [show n % 256 % 128 = n % 128 by omega] at h
 rw [← h]
 congr 1
 rw [← UInt8.toNat_inj]
 simp
theorem one_holds {w w2 : World} {c : UInt8} (N : New w w2 5 [u8 c]) : (∃ a cap, Value.slice (some ⟨w.heap.size, 0, none⟩) 1 1 = .slice a 0 cap ∧ [c] = []) ∨ Holds tByte (fun _ => False) w2 (.slice (some ⟨w.heap.size, 0, none⟩) 1 1) [c] :=
 .inr (New.holds (us := [u8 c]) N (.cons rfl .nil) rfl)
theorem Small_fn {w : World} {n : Nat} (hn : n < 18446744073709551616) : Fn Tryz.prog 47 [.int .u64 n] w (fun r w2 => Gr w2 r (smallF n) w.heap.size ∧ Ext (fun _ => False) w w2) := by
 refine Fn.enter (fun w => Tryz.call47 _ w) Tryz.func47 rfl ?_
 refine .seq (.region ?_)
 refine .p rfl rfl (.as rfl) (.nil (.code (.seq (.keep [(0, _)] ⟨rfl, trivial⟩ (.region ?_)))))
 refine .p rfl rfl (.as rfl) (.nil (.code (.seq (.block ?_))))
 refine .loop (S := Nat × Nat × Bs × Value × World) (fun s => [(0, .int .u64 (s.2.1 : Nat)), (3, s.2.2.2.1)]) (fun s => s.2.2.2.2) (fun s => 1 ≤ s.1 ∧ s.1 ≤ 10 ∧ s.2.1 < 18446744073709551616 ∧ s.2.1 < 128 ^ s.1 ∧ smallF n = s.2.2.1 ++ smallK s.1 s.2.1 ∧ s.2.2.1.length ≤ 10 - s.1 ∧ Gr s.2.2.2.2 s.2.2.2.1 s.2.2.1 w.heap.size ∧ Ext (fun _ => False) w s.2.2.2.2) (fun s => s.1) (10, n, [], .slice none 0 0, w) ⟨rfl, rfl, trivial⟩ rfl ⟨(by decide : 1 ≤ 10), (by decide : 10 ≤ 10), hn, Nat.lt_of_lt_of_le hn (by decide : 18446744073709551616 ≤ 128 ^ 10), rfl, (by decide : 0 ≤ 10 - 10), OwnO.nil, .refl _⟩ ?_
 rintro ⟨f, m, acc, v, wi⟩ J ⟨h1, h10, hm64, hm, hs, hl, hG, hX⟩ again
 simp only at h1 h10 hm64 hm hs hl hG hX
 have zi : w.heap.size ≤ wi.heap.size := hX.size
 change G _ [(0, .int .u64 (m : Nat)), (3, v)] _ _ wi
 refine .seq (.seq (.region ?_))
 refine .p rfl rfl (.mv rfl) (.p rfl rfl (.gt rfl rfl) (.nil (.code (.keep [(5, _), (0, _), (3, _)] ⟨rfl, rfl, rfl, trivial⟩ ?_))))
 refine .condD rfl (fun c5 => ?_) (fun c5 => ?_)
 ·obtain ⟨f, rfl⟩ : ∃ f', f = f' + 1 := ⟨f - 1, by omega⟩
  have hle := smallK_length (f + 1) m
  have hsp : smallK (f + 1) m = UInt8.ofNat (m % 128 + 128) :: smallK f (m / 128) := by rw [smallK, if_neg (by omega)]
  refine .skip (.code (.seq (.block (.keep [(0, _), (3, _)] ⟨rfl, rfl, trivial⟩ (.region ?_)))))
  refine .p rfl rfl (.mv rfl) (.p rfl rfl (.mv rfl) (.p rfl rfl (.cast (.convB rfl rfl rfl (by omega)) (show _ = u8 (UInt8.ofNat m) by rw [Int.toNat_natCast])) (.p rfl rfl (.cast (.or8 (b := 128) rfl rfl) (show _ = u8 (UInt8.ofNat (m % 128 + 128)) by rw [or128'])) (.v rfl rfl (.lits rfl rfl (fun _ => by kernel_rfl)) ?_))))
  rintro _ w12 ⟨rfl, N12⟩
  have z12 : w12.heap.size = wi.heap.size + 1 := N12.size
  refine .v rfl rfl (.appendLo (t := tByte) (eb := 1) rfl (hG.ext0 N12.ext) (fun k hk => by have hk : w12.heap.size ≤ k := hk; show w.heap.size ≤ k; omega) rfl (one_holds N12) rfl rfl rfl rfl rfl rfl rfl (by simp; omega) (by simp [Lim]; omega) (fun _ h _ => h.elim)) ?_
  rintro r13 w13 ⟨G13, Y13⟩
  have z13 : w12.heap.size ≤ w13.heap.size := Y13.size
  refine .p rfl rfl (.as rfl) (.nil (.blk (.code (.keep [(3, _), (0, _)] ⟨rfl, rfl, trivial⟩ (.region ?_)))))
  refine .p rfl rfl (.mv rfl) (.p rfl rfl (.cast (.shrN 7 rfl rfl (by decide)) (show _ = Value.int .u64 ((m / 128 : Nat) : Int) by simp)) (.p rfl rfl (.as rfl) (.nil ?_)))
  have hf1 : 1 ≤ f := by
   rcases Nat.eq_zero_or_pos f with rfl | h
   ·have : m < 128 := by simpa using hm
    omega
   ·exact h
  exact (again (f, m / 128, acc ++ [UInt8.ofNat (m % 128 + 128)], r13, w13) ⟨hf1, by show f ≤ 10; omega, by show m / 128 < _; omega, by show m / 128 < 128 ^ f; rw [Nat.pow_succ] at hm; omega, by show smallF n = (acc ++ [_]) ++ smallK f (m / 128); rw [hs, hsp, List.append_assoc]; rfl, by show (acc ++ [_]).length ≤ 10 - f; simp; omega, G13, (hX.trans N12.ext).then Y13 (fun k hk _ => hk)⟩ (by show f < f + 1; omega)).of ⟨rfl, rfl, trivial⟩
 ·obtain ⟨f, rfl⟩ : ∃ f', f = f' + 1 := ⟨f - 1, by omega⟩
  have hsp : smallK (f + 1) m = [UInt8.ofNat m] := by rw [smallK, if_pos (by omega)]
  refine .exit rfl (.code (.seq (.keep [(0, _), (3, _)] ⟨rfl, rfl, trivial⟩ (.region ?_))))
  refine .p rfl rfl (.mv rfl) (.p rfl rfl (.mv rfl) (.p rfl rfl (.cast (.convB rfl rfl rfl (by omega)) (show _ = u8 (UInt8.ofNat m) by rw [Int.toNat_natCast])) (.v rfl rfl (.lits rfl rfl (fun _ => by kernel_rfl)) ?_)))
  rintro _ w17 ⟨rfl, N17⟩
  have z17 : w17.heap.size = wi.heap.size + 1 := N17.size
  refine .v rfl rfl (.appendLo (t := tByte) (eb := 1) rfl (hG.ext0 N17.ext) (fun k hk => by have hk : w17.heap.size ≤ k := hk; show w.heap.size ≤ k; omega) rfl (one_holds N17) rfl rfl rfl rfl rfl rfl rfl (by simp; omega) (by simp [Lim]; omega) (fun _ h _ => h.elim)) ?_
  rintro r18 w18 ⟨G18, Y18⟩
  have z18 : w17.heap.size ≤ w18.heap.size := Y18.size
  refine .p rfl rfl (.as rfl) (.nil (.code ?_))
  refine .ret _ rfl ?_
  exact ⟨by rw [hs, hsp]; exact G18, (hX.trans N17.ext).then Y18 (fun k hk _ => hk)⟩
theorem Text_fn {w : World} {l : Bs} (hl : l.length < Lim) (hl2 : l.length + 10 < Lim) : Fn Tryz.prog 48 [str l] w (fun r w2 => Gr w2 r (textF l) w.heap.size ∧ Ext (fun _ => False) w w2) := by
 simp only [Lim] at hl
 have hsl := smallF_length l.length
 refine Fn.enter (fun w => Tryz.call48 _ w) Tryz.func48 rfl ?_
 refine .seq (.region ?_)
 refine .p rfl rfl (.as rfl) (.nil (.code (.seq (.keep [(0, _)] ⟨rfl, trivial⟩ (.region ?_)))))
 refine .p rfl rfl (.mv rfl) (.p rfl rfl (.lenS rfl rfl) (.p rfl rfl (.convU rfl rfl rfl (by omega)) (.call (first := []) (captured := []) rfl rfl rfl rfl (Small_fn (n := l.length) (by omega)) ?_)))
 rintro r6 w6 ⟨G6, X6⟩
 have z6 : w.heap.size ≤ w6.heap.size := X6.size
 refine .p rfl rfl (.mv rfl) (.v rfl rfl (.appendSLo rfl G6 (fun k hk => by have hk : w6.heap.size ≤ k := hk; show w.heap.size ≤ k; omega) rfl rfl rfl rfl rfl rfl rfl rfl (by simp only [Lim] at hl2 ⊢; omega) (fun _ h _ => h.elim)) ?_)
 rintro r8 w8 ⟨G8, Y8⟩
 refine .p rfl rfl (.as rfl) (.nil (.code ?_))
 refine .ret _ rfl ?_
 exact ⟨G8, X6.then Y8 (fun k hk _ => hk)⟩
end Go.Proofs.YtpfehnopghffjaaGreatDoor
namespace Go.Proofs.YtpfehnopghffjaaGreatDoor
open Go
def byteOf (n i : Nat) : UInt8 := UInt8.ofNat (n / 2 ^ (8 * i))
def put8 (n : Nat) : Bs := (List.range 8).map (byteOf n)
def getTo (l : Bs) : Nat → Nat
 | 0 => 0
 | i + 1 => getTo l i + (l.getD i 0).toNat * 2 ^ (8 * i)
theorem put8_length (n : Nat) : (put8 n).length = 8 := by simp [put8]
theorem getTo_lt (l : Bs) : ∀ i, getTo l i < 2 ^ (8 * i)
 | 0 => by simp [getTo]
 | i + 1 => by
  have h := getTo_lt l i
  have hb := (l.getD i 0).toNat_lt
  have e : 2 ^ (8 * (i + 1)) = 256 * 2 ^ (8 * i) := by rw [show 8 * (i + 1) = 8 + 8 * i by omega, Nat.pow_add]
  rw [getTo, e]
  have h2 : (l.getD i 0).toNat * 2 ^ (8 * i) ≤ 255 * 2 ^ (8 * i) := Nat.mul_le_mul_right _ (by omega)
  omega
theorem getTo_or (l : Bs) (i : Nat) : getTo l i ||| (l.getD i 0).toNat * 2 ^ (8 * i) = getTo l (i + 1) := by
 have h := Nat.two_pow_add_eq_or_of_lt (getTo_lt l i) (l.getD i 0).toNat
 rw [Nat.or_comm, Nat.mul_comm, ← h, getTo, Nat.mul_comm, Nat.add_comm]
theorem getTo_bd (l : Bs) {i : Nat} (hi : i ≤ 8) : getTo l i < 18446744073709551616 :=
 Nat.lt_of_lt_of_le (getTo_lt l i) (Nat.pow_le_pow_right (n := 2) (by decide) (show 8 * i ≤ 64 by omega))
theorem getTo_term (l : Bs) {i : Nat} (hi : i < 8) : (l.getD i 0).toNat * 2 ^ (8 * i) < 18446744073709551616 := by
 have h1 := getTo_bd l (i := i + 1) (by omega)
 rw [getTo] at h1
 omega
theorem byteOf_eq (n : Nat) (i : Nat) : u8 (byteOf n i) = u8 (UInt8.ofNat ((n : Int) / 2 ^ (8 * i)).toNat) := by
 have : ((n : Int) / 2 ^ (8 * i)) = ((n / 2 ^ (8 * i) : Nat) : Int) := by simp
 rw [this]
 rfl
theorem fill_set8 {α : Type} (f : Nat → α) (z : α) (n i : Nat) (h : i < n) : ((List.range i).map f ++ List.replicate (n - i) z).set i (f i) = (List.range (i + 1)).map f ++ List.replicate (n - (i + 1)) z := by
 rw [List.set_append_right _ _ (by simp)]
 simp only [List.length_map, List.length_range, Nat.sub_self, List.range_succ, List.map_append, List.map_cons, List.map_nil, List.append_assoc]
 congr 1
 rw [show n - i = (n - (i + 1)) + 1 by omega, List.replicate_succ]
 simp
theorem Put_fn {w : World} {n : Nat} (hn : n < 18446744073709551616) : Fn Tryz.prog 50 [.int .u64 n] w (fun r w2 => tBytes.rep (fun k => w.heap.size ≤ k) w2 r (put8 n) ∧ Ext (fun _ => False) w w2) := by
 refine Fn.enter (fun w => Tryz.call50 _ w) Tryz.func50 rfl ?_
 refine .seq (.region ?_)
 refine .p rfl rfl (.as rfl) (.nil (.code (.seq (.keep [(0, _)] ⟨rfl, trivial⟩ (.region ?_)))))
 refine .v rfl rfl (.alloc rfl rfl) ?_
 rintro _ w3 ⟨rfl, N3⟩
 refine .nil (.code (.seq (.seq (.region ?_))))
 refine .p rfl rfl (.mv rfl) (.nil (.code (.block ?_)))
 refine .loop (S := Nat × World) (fun s => [(6, i64 s.1), (3, .pointer (some ⟨w.heap.size, 0, none⟩)), (0, .int .u64 n)]) (fun s => s.2) (fun s => s.1 ≤ 8 ∧ Blk s.2 w.heap.size 178 ((List.range s.1).map (fun i => u8 (byteOf n i)) ++ List.replicate (8 - s.1) (u8 0)) ∧ Ext (· = w.heap.size) w3 s.2) (fun s => 8 - s.1) (0, w3) ⟨rfl, rfl, rfl, trivial⟩ rfl ⟨Nat.zero_le _, N3.blk, .refl _⟩ ?_
 rintro ⟨i, wi⟩ J ⟨hi, hB, hX⟩ again
 simp only at hi hB hX
 change G _ [(6, i64 i), (3, .pointer (some ⟨w.heap.size, 0, none⟩)), (0, .int .u64 n)] _ _ wi
 refine .seq (.region ?_)
 refine .p rfl rfl (.lt rfl rfl) (.nil (.code (.seq ?_)))
 refine .condD rfl (fun c7 => ?_) (fun c7 => ?_)
 ·refine .skip (.code (.seq (.block (.seq (.keep [(6, _), (3, _), (0, _)] ⟨rfl, rfl, rfl, trivial⟩ (.region ?_))))))
  refine .p rfl rfl (.mv rfl) (.p rfl rfl (.as rfl) (.nil (.code (.keep [(4, _), (6, _), (3, _), (0, _)] ⟨rfl, rfl, rfl, rfl, trivial⟩ (.region ?_)))))
  refine .p rfl rfl (.mv rfl) (.p rfl rfl (.mv rfl) (.p rfl rfl (.mv rfl) (.p rfl rfl (.mul rfl rfl (by omega)) (.p rfl rfl (.shrN (8 * i) rfl rfl (by show 8 * i ≤ 64; omega)) (.p rfl rfl (.convB rfl rfl rfl (Int.ediv_nonneg (by omega) (Int.pow_nonneg (by omega)))) (.p rfl rfl (.indexAddrA0 rfl rfl rfl rfl (by omega)) (.s rfl (.store rfl rfl rfl rfl rfl hB (by simp; omega)) ?_)))))))
  intro w16 P16
  have hB' := P16.blk
  have f := fill_set8 (fun i => u8 (byteOf n i)) (u8 0) 8 i (by omega)
  refine .nil (.blk (.code (.keep [(6, _), (3, _), (0, _)] ⟨rfl, rfl, rfl, trivial⟩ (.region ?_))))
  refine .p rfl rfl (.add rfl rfl (by omega)) (.p rfl rfl (.mv rfl) (.nil ?_))
  refine (again (i + 1, w16) ⟨by show i + 1 ≤ 8; omega, ?_, hX.trans P16.ext⟩ (by show 8 - (i + 1) < 8 - i; omega)).of ⟨rfl, rfl, rfl, trivial⟩
  show Blk w16 _ _ _
  rw [← f, byteOf_eq]
  exact hB'
 ·obtain rfl : i = 8 := by omega
  have hB8 : Blk wi w.heap.size 178 ((put8 n).map u8) := by
   have : (List.range 8).map (fun i => u8 (byteOf n i)) ++ List.replicate (8 - 8) (u8 0) = (put8 n).map u8 := by simp [put8]
   rw [← this]
   exact hB
  refine .exit rfl (.code (.seq (.keep [(3, _)] ⟨rfl, trivial⟩ (.region ?_))))
  refine .p rfl rfl (.loadA (n := 8) rfl rfl rfl rfl rfl hB8.cells) (.v rfl rfl (.alloc rfl rfl) ?_)
  rintro _ w5 ⟨rfl, N5⟩
  refine .s rfl (.storeAll (n := 8) rfl rfl rfl rfl (by simp [Value.oneCell']) N5.blk rfl) ?_
  intro w18 P18
  refine .nil (.code (.seq (.keep [(5, _)] ⟨rfl, trivial⟩ (.region ?_))))
  refine .p rfl rfl (.cutA rfl rfl rfl) (.p rfl rfl (.as rfl) (.nil (.code ?_)))
  refine .ret _ rfl ?_
  have hX18 := (N3.ext.then hX (by rintro k rfl _; omega)).trans N5.ext
  have hz := hX.size
  have hz3 := N3.size
  exact ⟨Sl.mkBytesB P18.blk (by rw [List.take_of_length_le (by simp)]) (by show w.heap.size ≤ wi.heap.size; omega) (by simp [put8]) (by simp [put8, Lim]) (by simp [put8]), hX18.then P18.ext (by rintro k rfl _; show w.heap.size ≤ wi.heap.size; omega)⟩
end Go.Proofs.YtpfehnopghffjaaGreatDoor
namespace Go.Proofs.YtpfehnopghffjaaGreatDoor
open Go
theorem Ext.and {S T : Nat → Prop} {a b c : World} (h : Ext S a b) (k : Ext T b c) (hs : ∀ i, T i → i < a.heap.size → S i) : Ext S a c :=
 ⟨k.os.trans h.os, k.tape.trans h.tape, k.output.trans h.output, Nat.le_trans h.size k.size, fun i hi hn =>
  (k.block i (Nat.lt_of_lt_of_le hi h.size) (fun ht => hn (hs i ht hi))).trans (h.block i hi hn)⟩
namespace files
open room
structure File where
 name : Bs
 size : Int
 ps : List Piece
structure Dir where
 gen : Int
 fs : List File
def tFile : Ty File := (tStr.pair (tInt.pair (Sl tPiece))).map (fun x => (x.name, x.size, x.ps))
def tDir : Ty Dir := (tInt.pair (Sl tFile)).map (fun x => (x.gen, x.fs))
theorem tFile.val {P : Nat → Prop} {w : World} {v : Value} {x : File} (h : tFile.rep P w v x) : ∃ a cap, v = .agg #[str x.name, i64 x.size, .slice a x.ps.length cap] ∧ (Sl tPiece).rep P w (.slice a x.ps.length cap) x.ps ∧ x.name.length < Lim ∧ (-9223372036854775808 ≤ x.size ∧ x.size ≤ 9223372036854775807) := by
 obtain ⟨_, _, rfl, ⟨rfl, h1⟩, _, u, rfl, ⟨rfl, h2⟩, h3⟩ := h
 obtain ⟨a, cap, rfl, _⟩ := Sl.val h3
 exact ⟨a, cap, rfl, h3, h1, h2⟩
theorem tFile.mk {P : Nat → Prop} {w : World} {x : File} {a : Option Addr} {n cap : Nat} (h : (Sl tPiece).rep P w (.slice a n cap) x.ps) (h1 : x.name.length < Lim) (h2 : -9223372036854775808 ≤ x.size ∧ x.size ≤ 9223372036854775807) : tFile.rep P w (.agg #[str x.name, i64 x.size, .slice a n cap]) x :=
 ⟨str x.name, .agg #[i64 x.size, .slice a n cap], rfl, ⟨rfl, h1⟩, i64 x.size, .slice a n cap, rfl, ⟨rfl, h2⟩, h⟩
theorem tDir.val {P : Nat → Prop} {w : World} {v : Value} {x : Dir} (h : tDir.rep P w v x) : ∃ a cap, v = .agg #[i64 x.gen, .slice a x.fs.length cap] ∧ (Sl tFile).rep P w (.slice a x.fs.length cap) x.fs ∧ (-9223372036854775808 ≤ x.gen ∧ x.gen ≤ 9223372036854775807) := by
 obtain ⟨_, u, rfl, ⟨rfl, h2⟩, h3⟩ := h
 obtain ⟨a, cap, rfl, _⟩ := Sl.val h3
 exact ⟨a, cap, rfl, h3, h2⟩
theorem tDir.mk {P : Nat → Prop} {w : World} {x : Dir} {a : Option Addr} {n cap : Nat} (h : (Sl tFile).rep P w (.slice a n cap) x.fs) (h2 : -9223372036854775808 ≤ x.gen ∧ x.gen ≤ 9223372036854775807) : tDir.rep P w (.agg #[i64 x.gen, .slice a n cap]) x :=
 ⟨i64 x.gen, .slice a n cap, rfl, ⟨rfl, h2⟩, h⟩
def allP (l : List File) : List Piece := l.flatMap (·.ps)
def needF (n : Int) : Int := (n + 127) / 128
def manyF (l : List Piece) : Int := if checkR 4096 l = 0 then (l.map (·.ct)).sum else 0
def okAt (l : List File) (i : Nat) (h : i < l.length) : Prop :=
 nameF l[i].name = true ∧ (∀ h0 : 0 < i, Op.bytesLess (l[i - 1]'(by omega)).name l[i].name = true) ∧ 0 ≤ l[i].size ∧ l[i].size ≤ 524288 ∧ manyF l[i].ps = needF l[i].size
def mayD (x : Dir) : Prop := (1 ≤ x.gen ∧ x.gen < 4611686018427387904) ∧ checkR 4096 (allP x.fs) = 0 ∧ (∀ p ∈ allP x.fs, 80 ≤ p.fr) ∧ ∀ i (h : i < x.fs.length), okAt x.fs i h
open Classical in
noncomputable def checkD (x : Dir) : Int := if 32 < x.fs.length then 42 else if mayD x then 0 else 8
def pieceB (p : Piece) : Bs := smallF p.fr.toNat ++ smallF p.ct.toNat
def fileB (f : File) : Bs := textF f.name ++ smallF f.size.toNat ++ smallF f.ps.length ++ f.ps.flatMap pieceB
def bodyD (l : List File) : Bs := smallF l.length ++ l.flatMap fileB
def slotsD (g : Nat) (b : Bs) : Bs := (List.range 8).flatMap (fun i => put8 g ++ [UInt8.ofNat i] ++ (b.drop (i * 119)).take 119)
noncomputable def writeF (x : Dir) : Bs × Int :=
 if ¬ checkD x = 0 then ([], checkD x) else if 952 < (bodyD x.fs).length then ([], 42) else (slotsD x.gen.toNat (bodyD x.fs ++ List.replicate (952 - (bodyD x.fs).length) 0), 0)
theorem checkD_42 {x : Dir} (h : 32 < x.fs.length) : checkD x = 42 := by unfold checkD; rw [if_pos h]
theorem checkD_8 {x : Dir} (h : ¬ 32 < x.fs.length) (h2 : ¬ mayD x) : checkD x = 8 := by unfold checkD; rw [if_neg h, if_neg h2]
theorem checkD_0 {x : Dir} (h : ¬ 32 < x.fs.length) (h2 : mayD x) : checkD x = 0 := by unfold checkD; rw [if_neg h, if_pos h2]
theorem checkD_ok {x : Dir} (h : checkD x = 0) : x.fs.length ≤ 32 ∧ mayD x := by
 unfold checkD at h
 split at h
 ·cases h
 ·rename_i h1
  split at h
  ·rename_i h2; exact ⟨by omega, h2⟩
  ·cases h
theorem writeF_e {x : Dir} (h : ¬ checkD x = 0) : writeF x = ([], checkD x) := by unfold writeF; rw [if_pos h]
theorem writeF_42 {x : Dir} (h : checkD x = 0) (h2 : 952 < (bodyD x.fs).length) : writeF x = ([], 42) := by unfold writeF; rw [if_neg (by rw [h]; exact fun h => h rfl), if_pos h2]
theorem writeF_0 {x : Dir} (h : checkD x = 0) (h2 : ¬ 952 < (bodyD x.fs).length) : writeF x = (slotsD x.gen.toNat (bodyD x.fs ++ List.replicate (952 - (bodyD x.fs).length) 0), 0) := by unfold writeF; rw [if_neg (by rw [h]; exact fun h => h rfl), if_neg h2]
theorem piece_ok {x : Dir} (h : mayD x) {f : File} (hf : f ∈ x.fs) {p : Piece} (hp : p ∈ f.ps) : 0 ≤ p.fr ∧ p.fr < 4096 ∧ 1 ≤ p.ct ∧ p.ct ≤ 4096 := by
 have hm := (check_ok h.2.1).2.2.2.1 p (List.mem_flatMap.2 ⟨f, hf, hp⟩)
 unfold okP at hm
 omega
theorem files_step {α : Type} {l : List File} {i : Nat} (h : i < l.length) (f : File → List α) : (l.take (i + 1)).flatMap f = (l.take i).flatMap f ++ f l[i] := by
 rw [List.take_succ_eq_append_getElem h, List.flatMap_append]
 simp
theorem pieces_step {α : Type} {l : List Piece} {i : Nat} (h : i < l.length) (f : Piece → List α) : (l.take (i + 1)).flatMap f = (l.take i).flatMap f ++ f l[i] := by
 rw [List.take_succ_eq_append_getElem h, List.flatMap_append]
 simp
theorem ints_step {α : Type} {l : List Int} {i : Nat} (h : i < l.length) (f : Int → List α) : (l.take (i + 1)).flatMap f = (l.take i).flatMap f ++ f l[i] := by
 rw [List.take_succ_eq_append_getElem h, List.flatMap_append]
 simp
def numB (n : Int) : Bs := smallF n.toNat
end files
open files
theorem put_fn {w : World} {u v : Value} {l : List Int} {c : Nat} {acc : Bs} {B : Nat → Prop} (hl : (Sl tInt).rep (fun k => ¬ (k = c ∨ B k)) w u l) (hp : ∀ n ∈ l, 0 ≤ n) (hl2 : l.length ≤ 10) (hacc : acc.length ≤ 140000000000) (hc : Blk w c 25 [v]) (hG : OwnO tByte (fun _ => False) 5 w v acc B) (hB : ¬ B c) : Fn Tryz.prog 46 [u, .pointer (some ⟨c, 0, none⟩)] w (fun r w2 => ∃ v', r = .tuple #[] ∧ Blk w2 c 25 [v'] ∧ OwnO tByte (fun _ => False) 5 w2 v' (acc ++ l.flatMap numB) (fun k => B k ∨ w.heap.size ≤ k) ∧ Ext (fun k => k = c ∨ B k) w w2) := by
 have hcl := hc.lt
 obtain ⟨a, cap, rfl, hcap⟩ := Sl.val hl
 refine Fn.enter (fun w => Tryz.call46 _ w) Tryz.func46 rfl ?_
 refine .seq (.region ?_)
 refine .p rfl rfl (.mv rfl) (.p rfl rfl (.len rfl rfl) (.p rfl rfl (.mv rfl) (.nil (.code (.block (.keep [(7, _), (6, _), (5, _), (1, _)] ⟨rfl, rfl, rfl, rfl, trivial⟩ ?_))))))
 refine .loop (S := Nat × Bs × Value × World) (fun s => [(1, .pointer (some ⟨c, 0, none⟩)), (5, .slice a l.length cap), (6, i64 l.length), (7, i64 s.1)]) (fun s => s.2.2.2) (fun s => s.1 ≤ l.length ∧ s.2.1 = acc ++ (l.take s.1).flatMap numB ∧ s.2.1.length ≤ 140000000000 + 10 * s.1 ∧ Blk s.2.2.2 c 25 [s.2.2.1] ∧ OwnO tByte (fun _ => False) 5 s.2.2.2 s.2.2.1 s.2.1 (fun k => B k ∨ w.heap.size ≤ k) ∧ Ext (fun k => k = c ∨ B k) w s.2.2.2) (fun s => l.length - s.1) (0, acc, v, w) ⟨rfl, rfl, rfl, rfl, trivial⟩ rfl ⟨Nat.zero_le _, (List.append_nil _).symm, (by show acc.length ≤ 140000000000 + 10 * 0; omega), hc, OwnO.mono hG (fun _ h _ => h) (fun _ h _ => .inl h), .refl _⟩ ?_
 rintro ⟨i, ai, vi, wi⟩ J ⟨hi', ha, hal, hC, hGi, hX⟩ again
 simp only at hi' ha hal hC hGi hX
 have zi : w.heap.size ≤ wi.heap.size := hX.size
 have hn : ¬ (B c ∨ w.heap.size ≤ c) := fun h => h.elim hB (by omega)
 change G _ [(1, .pointer (some ⟨c, 0, none⟩)), (5, .slice a l.length cap), (6, i64 l.length), (7, i64 i)] _ _ wi
 refine .seq (.region ?_)
 refine .p rfl rfl (.lt rfl rfl) (.nil (.code (.seq ?_)))
 refine .condD rfl (fun c8 => ?_) (fun c8 => ?_)
 ·have hi : i < l.length := by omega
  obtain ⟨b0, o0, e, _, hce, hb0⟩ := Sl.intAt (Ty.ext (Sl tInt) hl hX (fun k h _ => h)) hi
  cases e
  have h0 := hp _ (List.getElem_mem hi)
  refine .skip (.code (.seq (.block (.seq (.keep [(1, _), (5, _), (6, _), (7, _)] ⟨rfl, rfl, rfl, rfl, trivial⟩ (.region ?_))))))
  refine .p rfl rfl (.indexAddr1 rfl rfl rfl rfl (by omega)) (.p rfl rfl (.load rfl rfl rfl hce) (.p rfl rfl (.as rfl) (.nil (.code (.keep [(4, _), (1, _), (5, _), (6, _), (7, _)] ⟨rfl, rfl, rfl, rfl, rfl, trivial⟩ (.mix ((fun k => B k ∨ w.heap.size ≤ k)) [3, 4, 5] (by kernel_rfl) (by kernel_rfl) (by kernel_rfl) ?_))))))
  refine .p rfl rfl rfl (fun wx hx => .load rfl rfl rfl ((hC.ext hx hn).cell 0)) (.p rfl rfl rfl (fun wx hx => .mv rfl) (.p rfl rfl rfl (fun wx hx => .cast (.convU rfl rfl rfl (by omega)) (show _ = Value.int .u64 ((l[i].toNat : Nat) : Int) by rw [Int.toNat_of_nonneg h0])) (.call (first := []) (captured := []) rfl rfl rfl rfl rfl (Small_fn (n := l[i].toNat) (by omega)) (by rintro _ _ ⟨_, hx⟩; exact hx.mono (fun _ _ h => h.elim)) ?_)))
  rintro r14 w14 ⟨G14, X14⟩
  have z14 : wi.heap.size ≤ w14.heap.size := X14.size
  have hsl := smallF_length l[i].toNat
  refine .v rfl rfl rfl (.appendLo (t := tByte) (eb := 1) rfl (OwnO.ext0 hGi X14) (fun k hk => .inr (by omega)) rfl (Gr.holds (Gr.rep G14)) rfl rfl rfl rfl rfl rfl rfl (by simp; omega) (by simp [Lim]; omega) (fun _ h _ => h.elim)) (by rintro _ _ ⟨_, hx⟩; exact (X14.mono (fun _ _ h => h.elim)).trans hx) ?_
  rintro r15 w15 ⟨G15, Y15⟩
  have z15 : w14.heap.size ≤ w15.heap.size := Y15.size
  have C15 := ((hC.ext X14 (fun h => h)).ext Y15 hn)
  obtain ⟨a15, cap15, rfl, hc15⟩ := OwnO.val G15
  refine .sL rfl rfl (.store rfl rfl rfl rfl rfl C15 (by simp)) (by kernel_rfl) ?_
  intro w16 P16
  have C16 : Blk w16 c 25 [.slice a15 (ai ++ smallF l[i].toNat).length cap15] := P16.blk
  refine .nil (.blk (.code (.keep [(1, _), (5, _), (6, _), (7, _)] ⟨rfl, rfl, rfl, rfl, trivial⟩ (.region ?_))))
  refine .p rfl rfl (.add rfl rfl (by omega)) (.p rfl rfl (.mv rfl) (.nil ?_))
  exact (again (i + 1, ai ++ smallF l[i].toNat, .slice a15 (ai ++ smallF l[i].toNat).length cap15, w16) ⟨by show i + 1 ≤ l.length; omega, by show ai ++ smallF l[i].toNat = _; rw [ints_step hi, ha, List.append_assoc]; rfl, by have := smallF_length l[i].toNat; show (ai ++ smallF l[i].toNat).length ≤ 140000000000 + 10 * (i + 1); rw [List.length_append]; omega, C16, (OwnO.mono (OwnO.ext G15 P16.ext (fun k hk _ (he : k = c) => hn (he ▸ hk)) (fun _ h _ => h.elim)) (fun _ h _ => h) (fun _ h _ => h)), (((hX.trans (X14.mono (fun _ _ h => h.elim))).and Y15 (fun k h hk => h.elim .inr (fun h => by omega))).and P16.ext (fun k h _ => .inl h))⟩ (by show l.length - (i + 1) < l.length - i; omega)).of ⟨rfl, rfl, rfl, rfl, trivial⟩
 ·obtain rfl : i = l.length := by omega
  refine .exit rfl (.fin [] rfl ?_)
  rw [List.take_length] at ha
  subst ha
  exact ⟨vi, rfl, hC, hGi, hX⟩
end Go.Proofs.YtpfehnopghffjaaGreatDoor
namespace Go.Proofs.YtpfehnopghffjaaGreatDoor
open Go
def sumTo (b : Bs) : Nat → Nat
 | 0 => 0
 | i + 1 => sumTo b i + (b.getD i 0).toNat % 128 * 128 ^ i
def leadN (b : Bs) : Nat := (b.takeWhile (fun x => decide (128 ≤ x.toNat))).length
def readOk (b : Bs) : Prop := leadN b < b.length ∧ leadN b ≤ 9 ∧ ¬ (leadN b = 9 ∧ 1 < (b.getD (leadN b) 0).toNat) ∧ ¬ (0 < leadN b ∧ (b.getD (leadN b) 0).toNat = 0)
instance (b : Bs) : Decidable (readOk b) := by unfold readOk; infer_instance
def readF (b : Bs) : Nat × Nat × Int := if readOk b then (sumTo b (leadN b + 1), leadN b + 1, 0) else (0, 0, 8)
theorem sumTo_lt (b : Bs) : ∀ i, sumTo b i < 128 ^ i
 | 0 => by simp [sumTo]
 | i + 1 => by
  have h := sumTo_lt b i
  rw [sumTo, Nat.pow_succ]
  have h1 : (b.getD i 0).toNat % 128 ≤ 127 := by omega
  have h2 : (b.getD i 0).toNat % 128 * 128 ^ i ≤ 127 * 128 ^ i := Nat.mul_le_mul_right _ h1
  omega
theorem pow7 (i : Nat) : 2 ^ (7 * i) = 128 ^ i := by rw [Nat.pow_mul]
theorem sum_or (b : Bs) (i : Nat) : sumTo b i ||| (b.getD i 0).toNat % 128 * 2 ^ (7 * i) = sumTo b (i + 1) := by
 have h := Nat.two_pow_add_eq_or_of_lt (i := 7 * i) (by rw [pow7]; exact sumTo_lt b i) ((b.getD i 0).toNat % 128)
 rw [Nat.or_comm, Nat.mul_comm, ← h, sumTo, pow7, Nat.mul_comm, Nat.add_comm]
theorem and127 (x : UInt8) : (x &&& 127).toNat = x.toNat % 128 := by
 rw [UInt8.toNat_and]
 exact Nat.and_two_pow_sub_one_eq_mod x.toNat 7
theorem sum_bd (b : Bs) {i : Nat} (hi : i ≤ 9) (h : i = 9 → (b.getD i 0).toNat ≤ 1) : (b.getD i 0).toNat % 128 * 2 ^ (7 * i) < 18446744073709551616 ∧ sumTo b (i + 1) < 18446744073709551616 := by
 have h1 := sumTo_lt b i
 rw [pow7, sumTo]
 rcases Nat.lt_or_ge i 9 with h9 | h9
 ·have h3 : (128 : Nat) ^ i ≤ 128 ^ 8 := Nat.pow_le_pow_right (by decide) (by omega)
  have h2 : (b.getD i 0).toNat % 128 * 128 ^ i ≤ 127 * 128 ^ i := Nat.mul_le_mul_right _ (by omega)
  have h4 : (128 : Nat) ^ 8 = 72057594037927936 := by decide
  omega
 ·obtain rfl : i = 9 := by omega
  have h2 := h rfl
  have h3 : (b.getD 9 0).toNat % 128 * 128 ^ 9 ≤ 1 * 128 ^ 9 := Nat.mul_le_mul_right _ (by omega)
  have h4 : (128 : Nat) ^ 9 = 9223372036854775808 := by decide
  omega
theorem lead_ge : ∀ (b : Bs) (i : Nat), i ≤ b.length → (∀ j (h : j < b.length), j < i → 128 ≤ b[j].toNat) → i ≤ leadN b
 | _, 0, _, _ => Nat.zero_le _
 | [], i + 1, h, _ => absurd h (Nat.not_succ_le_zero _)
 | x :: b, i + 1, h, ha => by
  have h0 := ha 0 (Nat.succ_pos _) (Nat.succ_pos _)
  have ih := lead_ge b i (by simpa using h) (fun j hj hlt => ha (j + 1) (by simpa using hj) (by omega))
  unfold leadN at *
  rw [List.takeWhile_cons, if_pos (by simpa using h0)]
  simp
  omega
theorem lead_eq {b : Bs} {i : Nat} (h : i < b.length) (ha : ∀ j (h : j < b.length), j < i → 128 ≤ b[j].toNat) (hi : b[i].toNat < 128) : leadN b = i := by
 have h1 := lead_ge b i (by omega) ha
 rcases Nat.lt_or_ge i (leadN b) with h2 | h2
 ·exfalso
  have h3 : ∀ (b : Bs) (i : Nat) (hi : i < b.length), i < leadN b → 128 ≤ b[i].toNat := by
   intro b
   induction b with
   | nil => intro i hi; exact absurd hi (Nat.not_lt_zero _)
   | cons x b ih =>
    intro i hi hlt
    by_cases hx : 128 ≤ x.toNat
    ·have e : leadN (x :: b) = leadN b + 1 := by unfold leadN; rw [List.takeWhile_cons, if_pos (by simpa using hx)]; rfl
     cases i with
     | zero => exact hx
     | succ i => exact ih i (by simpa using hi) (by omega)
    ·have e : leadN (x :: b) = 0 := by unfold leadN; rw [List.takeWhile_cons, if_neg (by simpa using hx)]; rfl
     omega
  have := h3 b i h h2
  omega
 ·omega
theorem getD_at {b : Bs} {i : Nat} (h : i < b.length) : b.getD i 0 = b[i] := by rw [List.getD_eq_getElem?_getD, List.getElem?_eq_getElem h]; rfl
theorem read_good {b : Bs} {i : Nat} (h : i < b.length) (h9 : i ≤ 9) (ha : ∀ j (h : j < b.length), j < i → 128 ≤ b[j].toNat) (hi : b[i].toNat < 128) (h1 : i = 9 → b[i].toNat ≤ 1) (h0 : 0 < i → b[i].toNat ≠ 0) : readF b = (sumTo b (i + 1), i + 1, 0) := by
 have e := lead_eq h ha hi
 unfold readF
 rw [if_pos, e]
 unfold readOk
 rw [e, getD_at h]
 exact ⟨h, h9, fun hx => by have := h1 hx.1; omega, fun hx => h0 hx.1 hx.2⟩
theorem read_bad0 {b : Bs} (ha : ∀ j (h : j < b.length), 128 ≤ b[j].toNat) : readF b = (0, 0, 8) := by
 have e := lead_ge b b.length (Nat.le_refl _) (fun j hj _ => ha j hj)
 unfold readF
 rw [if_neg]
 rintro ⟨h, _⟩
 omega
theorem read_bad9 {b : Bs} (h : 9 < b.length) (ha : ∀ j (h : j < b.length), j < 9 → 128 ≤ b[j].toNat) (h1 : 1 < b[9].toNat) : readF b = (0, 0, 8) := by
 have e := lead_ge b 9 (by omega) ha
 unfold readF
 rw [if_neg]
 rintro ⟨_, h9, hx, _⟩
 have e9 : leadN b = 9 := by omega
 rw [e9, getD_at h] at hx
 exact hx ⟨rfl, h1⟩
theorem read_badz {b : Bs} {i : Nat} (h : i < b.length) (ha : ∀ j (h : j < b.length), j < i → 128 ≤ b[j].toNat) (h0 : 0 < i) (h1 : b[i].toNat = 0) : readF b = (0, 0, 8) := by
 have e := lead_eq h ha (by omega)
 unfold readF
 rw [if_neg]
 rintro ⟨_, _, _, hx⟩
 rw [e, getD_at h] at hx
 exact hx ⟨h0, h1⟩
theorem Sl.isNone0 {α : Type} {t : Ty α} {P : Nat → Prop} {w : World} {a : Option Addr} {n cap : Nat} {xs : List α} (h : (Sl t).rep P w (.slice a n cap) xs) (ha : a.isNone = true) : xs = [] := by
 obtain ⟨_, a', cap', e, _, ⟨rfl, _⟩ | ⟨b, o, us, rfl, _⟩⟩ := h
 ·rfl
 ·cases e; cases ha
def cutF (b : Bs) : Bs × Bs × Int := if ¬ (readF b).2.2 = 0 ∨ b.length - (readF b).2.1 < (readF b).1 then ([], [], 8) else ((b.drop (readF b).2.1).take (readF b).1, (b.drop (readF b).2.1).drop (readF b).1, 0)
theorem readF_bd (b : Bs) : (readF b).1 < 18446744073709551616 ∧ (readF b).2.1 ≤ b.length := by
 unfold readF
 split
 ·rename_i h
  obtain ⟨h1, h2, h3, h4⟩ := h
  exact ⟨(sum_bd b h2 (fun e => by omega)).2, by show leadN b + 1 ≤ _; omega⟩
 ·exact ⟨by decide, Nat.zero_le _⟩
theorem Read_fn {w : World} {v : Value} {b : Bs} (h : tBytes.rep All w v b) : Fn Tryz.prog 57 [v] w (fun r w2 => r = .tuple #[.int .u64 ((readF b).1 : Nat), i64 ((readF b).2.1 : Nat), i64 (readF b).2.2] ∧ Ext (fun _ => False) w w2) := by
 obtain ⟨a, cap, rfl, hcap⟩ := Sl.val h
 have hlim := Sl.lim h
 simp only [Lim] at hlim
 refine Fn.enter (fun w => Tryz.call57 _ w) Tryz.func57 rfl ?_
 refine .seq (.region ?_)
 refine .p rfl rfl (.as rfl) (.p rfl rfl (.as rfl) (.p rfl rfl (.as rfl) (.nil (.code (.seq (.keep [(0, _)] ⟨rfl, trivial⟩ (.region ?_)))))))
 refine .p rfl rfl (.as rfl) (.nil (.code (.seq (.seq (.region ?_)))))
 refine .p rfl rfl (.mv rfl) (.p rfl rfl (.len rfl rfl) (.p rfl rfl (.mv rfl) (.nil (.code (.block (.keep [(10, _), (9, _), (8, _), (5, _)] ⟨rfl, rfl, rfl, rfl, trivial⟩ ?_))))))
 refine .loop (S := Nat) (fun s => [(5, .int .u64 (sumTo b s : Nat)), (8, .slice a b.length cap), (9, i64 b.length), (10, i64 s)]) (fun s => w) (fun s => s ≤ b.length ∧ s ≤ 9 ∧ ∀ j (h : j < b.length), j < s → 128 ≤ b[j].toNat) (fun s => b.length - s) 0 ⟨rfl, rfl, rfl, rfl, trivial⟩ rfl ⟨Nat.zero_le _, Nat.zero_le _, fun j _ h => absurd h (Nat.not_lt_zero _)⟩ ?_
 rintro i J ⟨hi', hi9, ha⟩ again
 refine .seq (.region ?_)
 refine .p rfl rfl (.lt rfl rfl) (.nil (.code (.seq ?_)))
 refine .condD rfl (fun c11 => ?_) (fun c11 => ?_)
 ·have hi : i < b.length := by omega
  obtain ⟨b0, o0, rfl, _, hc⟩ := Sl.byteAt h hi
  have hs0 : sumTo b i < 18446744073709551616 := by
   have h1 := sumTo_lt b i
   have h2 : (128 : Nat) ^ i ≤ 128 ^ 9 := Nat.pow_le_pow_right (by decide) hi9
   have h4 : (128 : Nat) ^ 9 = 9223372036854775808 := by decide
   omega
  have pow_cast : (((b.getD i 0).toNat % 128 * 2 ^ (7 * i) : Nat) : Int) = (((b.getD i 0).toNat % 128 : Nat) : Int) * 2 ^ (7 * i) := by simp
  refine .skip (.code (.seq (.block (.seq (.keep [(5, _), (8, _), (9, _), (10, _)] ⟨rfl, rfl, rfl, rfl, trivial⟩ (.region ?_))))))
  refine .p rfl rfl (.mv rfl) (.p rfl rfl (.indexAddr1 rfl rfl rfl rfl (by omega)) (.p rfl rfl (.load rfl rfl rfl hc) (.p rfl rfl (.as rfl) (.p rfl rfl (.as rfl) (.nil (.code (.seq (.seq (.keep [(7, _), (6, _), (5, _), (8, _), (9, _), (10, _)] ⟨rfl, rfl, rfl, rfl, rfl, rfl, trivial⟩ (.region ?_))))))))))
  refine .p rfl rfl (.mv rfl) (.p rfl rfl (.eq rfl rfl) (.p rfl rfl (.mv rfl) ?_))
  refine .caseD 17 rfl (fun c17 => ?_) (fun c17 => ?_)
  ·refine .p rfl rfl (.mv rfl) (.p rfl rfl (.gt rfl rfl) (.p rfl rfl (.pickT rfl rfl) (.nil (.code (.keep [(20, _), (7, _), (6, _), (5, _), (8, _), (9, _), (10, _)] ⟨rfl, rfl, rfl, rfl, rfl, rfl, rfl, trivial⟩ ?_)))))
   refine .condD rfl (fun c20 => ?_) (fun c20 => ?_)
   ·refine .exit rfl (.code (.seq (.keep [] trivial (.region ?_))))
    refine .p rfl rfl (.as rfl) (.p rfl rfl (.as rfl) (.p rfl rfl (.as rfl) (.nil (.code ?_))))
    refine .ret _ rfl ?_
    have hi9 : i = 9 := by omega
    subst hi9
    rw [read_bad9 hi ha (by omega)]
    exact ⟨rfl, .refl _⟩
   ·have hsb := sum_bd b hi9 (fun e => by rw [getD_at hi]; omega)
    refine .skip (.code (.seq (.keep [(7, _), (6, _), (5, _), (8, _), (9, _), (10, _)] ⟨rfl, rfl, rfl, rfl, rfl, rfl, trivial⟩ (.region ?_))))
    refine .p rfl rfl (.mv rfl) (.p rfl rfl (.mv rfl) (.p rfl rfl (.and8 (b := 127) rfl rfl) (.p rfl rfl (.cast (.conv8_U rfl rfl rfl) (show _ = Value.int .u64 (((b.getD i 0).toNat % 128 : Nat) : Int) by rw [and127, getD_at hi])) (.p rfl rfl (.mv rfl) (.p rfl rfl (.cast (.mul rfl rfl (by omega)) (show _ = i64 ((7 * i : Nat) : Int) from congrArg i64 (by omega))) (.p rfl rfl (.cast (.shlU (7 * i) rfl rfl (by omega) (by rw [← pow_cast]; omega)) (show _ = Value.int .u64 (((b.getD i 0).toNat % 128 * 2 ^ (7 * i) : Nat) : Int) by rw [pow_cast])) (.p rfl rfl (.cast (.orU (p := sumTo b i) (q := (b.getD i 0).toNat % 128 * 2 ^ (7 * i)) rfl rfl hs0 (by omega)) (show _ = Value.int .u64 ((sumTo b (i + 1) : Nat) : Int) by rw [sum_or])) (.p rfl rfl (.as rfl) (.nil (.code (.seq (.keep [(5, _), (7, _), (6, _), (8, _), (9, _), (10, _)] ⟨rfl, rfl, rfl, rfl, rfl, rfl, trivial⟩ (.region ?_)))))))))))))
    refine .p rfl rfl (.mv rfl) (.p rfl rfl (.lt rfl rfl) (.nil (.code (.keep [(30, _), (5, _), (7, _), (6, _), (8, _), (9, _), (10, _)] ⟨rfl, rfl, rfl, rfl, rfl, rfl, rfl, trivial⟩ ?_))))
    refine .condD rfl (fun c30 => ?_) (fun c30 => ?_)
    ·have hle := lead_eq hi ha (by omega)
     refine .seq (.seq (.keep [(5, _), (7, _), (6, _)] ⟨rfl, rfl, rfl, trivial⟩ (.region ?_)))
     refine .p rfl rfl (.mv rfl) (.p rfl rfl (.eq rfl rfl) (.p rfl rfl (.mv rfl) ?_))
     refine .caseD 33 rfl (fun c33 => ?_) (fun c33 => ?_)
     ·refine .p rfl rfl (.mv rfl) (.p rfl rfl (.gt rfl rfl) (.p rfl rfl (.pickT rfl rfl) (.nil (.code (.keep [(36, _), (5, _), (6, _)] ⟨rfl, rfl, rfl, trivial⟩ ?_)))))
      refine .condD rfl (fun c36 => ?_) (fun c36 => ?_)
      ·refine .exit rfl (.code (.seq (.keep [] trivial (.region ?_))))
       refine .p rfl rfl (.as rfl) (.p rfl rfl (.as rfl) (.p rfl rfl (.as rfl) (.nil (.code ?_))))
       refine .ret _ rfl ?_
       rw [read_badz hi ha (by omega) (by omega)]
       exact ⟨rfl, .refl _⟩
      ·refine .skip (.code (.seq (.keep [(5, _), (6, _)] ⟨rfl, rfl, trivial⟩ (.region ?_))))
       refine .p rfl rfl (.mv rfl) (.p rfl rfl (.mv rfl) (.p rfl rfl (.add rfl rfl (by omega)) (.p rfl rfl (.as rfl) (.p rfl rfl (.as rfl) (.p rfl rfl (.as rfl) (.nil (.code ?_)))))))
       refine .ret _ rfl ?_
       rw [read_good hi hi9 ha (by omega) (by omega) (by omega)]
       exact ⟨rfl, .refl _⟩
     ·refine .skip rfl rfl (.skip rfl rfl (.p rfl rfl (.pickF rfl rfl) (.nil (.code (.keep [(36, _), (5, _), (6, _)] ⟨rfl, rfl, rfl, trivial⟩ (.condF rfl (.skip (.code (.seq (.keep [(5, _), (6, _)] ⟨rfl, rfl, trivial⟩ (.region ?_)))))))))))
      refine .p rfl rfl (.mv rfl) (.p rfl rfl (.mv rfl) (.p rfl rfl (.add rfl rfl (by omega)) (.p rfl rfl (.as rfl) (.p rfl rfl (.as rfl) (.p rfl rfl (.as rfl) (.nil (.code ?_)))))))
      refine .ret _ rfl ?_
      rw [read_good hi hi9 ha (by omega) (by omega) (by omega)]
      exact ⟨rfl, .refl _⟩
    ·refine .skip (.blk (.code (.keep [(5, _), (8, _), (9, _), (10, _)] ⟨rfl, rfl, rfl, rfl, trivial⟩ (.region ?_))))
     refine .p rfl rfl (.add rfl rfl (by omega)) (.p rfl rfl (.mv rfl) (.nil ?_))
     exact (again (i + 1) ⟨by omega, by omega, fun j hj hlt => by
      rcases Nat.lt_or_ge j i with h2 | h2
      ·exact ha j hj h2
      ·have : j = i := by omega
       subst this
       omega⟩ (by show _ - (i + 1) < _ - i; omega)).of ⟨rfl, rfl, rfl, rfl, trivial⟩
  ·have hsb := sum_bd b hi9 (fun e => absurd (by omega) c17)
   refine .skip rfl rfl (.skip rfl rfl (.p rfl rfl (.pickF rfl rfl) (.nil (.code (.keep [(20, _), (7, _), (6, _), (5, _), (8, _), (9, _), (10, _)] ⟨rfl, rfl, rfl, rfl, rfl, rfl, rfl, trivial⟩ (.condF rfl (.skip (.code (.seq (.keep [(7, _), (6, _), (5, _), (8, _), (9, _), (10, _)] ⟨rfl, rfl, rfl, rfl, rfl, rfl, trivial⟩ (.region ?_)))))))))))
   refine .p rfl rfl (.mv rfl) (.p rfl rfl (.mv rfl) (.p rfl rfl (.and8 (b := 127) rfl rfl) (.p rfl rfl (.cast (.conv8_U rfl rfl rfl) (show _ = Value.int .u64 (((b.getD i 0).toNat % 128 : Nat) : Int) by rw [and127, getD_at hi])) (.p rfl rfl (.mv rfl) (.p rfl rfl (.cast (.mul rfl rfl (by omega)) (show _ = i64 ((7 * i : Nat) : Int) from congrArg i64 (by omega))) (.p rfl rfl (.cast (.shlU (7 * i) rfl rfl (by omega) (by rw [← pow_cast]; omega)) (show _ = Value.int .u64 (((b.getD i 0).toNat % 128 * 2 ^ (7 * i) : Nat) : Int) by rw [pow_cast])) (.p rfl rfl (.cast (.orU (p := sumTo b i) (q := (b.getD i 0).toNat % 128 * 2 ^ (7 * i)) rfl rfl hs0 (by omega)) (show _ = Value.int .u64 ((sumTo b (i + 1) : Nat) : Int) by rw [sum_or])) (.p rfl rfl (.as rfl) (.nil (.code (.seq (.keep [(5, _), (7, _), (6, _), (8, _), (9, _), (10, _)] ⟨rfl, rfl, rfl, rfl, rfl, rfl, trivial⟩ (.region ?_)))))))))))))
   refine .p rfl rfl (.mv rfl) (.p rfl rfl (.lt rfl rfl) (.nil (.code (.keep [(30, _), (5, _), (7, _), (6, _), (8, _), (9, _), (10, _)] ⟨rfl, rfl, rfl, rfl, rfl, rfl, rfl, trivial⟩ ?_))))
   refine .condD rfl (fun c30 => ?_) (fun c30 => ?_)
   ·have hle := lead_eq hi ha (by omega)
    refine .seq (.seq (.keep [(5, _), (7, _), (6, _)] ⟨rfl, rfl, rfl, trivial⟩ (.region ?_)))
    refine .p rfl rfl (.mv rfl) (.p rfl rfl (.eq rfl rfl) (.p rfl rfl (.mv rfl) ?_))
    refine .caseD 33 rfl (fun c33 => ?_) (fun c33 => ?_)
    ·refine .p rfl rfl (.mv rfl) (.p rfl rfl (.gt rfl rfl) (.p rfl rfl (.pickT rfl rfl) (.nil (.code (.keep [(36, _), (5, _), (6, _)] ⟨rfl, rfl, rfl, trivial⟩ ?_)))))
     refine .condD rfl (fun c36 => ?_) (fun c36 => ?_)
     ·refine .exit rfl (.code (.seq (.keep [] trivial (.region ?_))))
      refine .p rfl rfl (.as rfl) (.p rfl rfl (.as rfl) (.p rfl rfl (.as rfl) (.nil (.code ?_))))
      refine .ret _ rfl ?_
      rw [read_badz hi ha (by omega) (by omega)]
      exact ⟨rfl, .refl _⟩
     ·refine .skip (.code (.seq (.keep [(5, _), (6, _)] ⟨rfl, rfl, trivial⟩ (.region ?_))))
      refine .p rfl rfl (.mv rfl) (.p rfl rfl (.mv rfl) (.p rfl rfl (.add rfl rfl (by omega)) (.p rfl rfl (.as rfl) (.p rfl rfl (.as rfl) (.p rfl rfl (.as rfl) (.nil (.code ?_)))))))
      refine .ret _ rfl ?_
      rw [read_good hi hi9 ha (by omega) (by omega) (by omega)]
      exact ⟨rfl, .refl _⟩
    ·refine .skip rfl rfl (.skip rfl rfl (.p rfl rfl (.pickF rfl rfl) (.nil (.code (.keep [(36, _), (5, _), (6, _)] ⟨rfl, rfl, rfl, trivial⟩ (.condF rfl (.skip (.code (.seq (.keep [(5, _), (6, _)] ⟨rfl, rfl, trivial⟩ (.region ?_)))))))))))
     refine .p rfl rfl (.mv rfl) (.p rfl rfl (.mv rfl) (.p rfl rfl (.add rfl rfl (by omega)) (.p rfl rfl (.as rfl) (.p rfl rfl (.as rfl) (.p rfl rfl (.as rfl) (.nil (.code ?_)))))))
     refine .ret _ rfl ?_
     rw [read_good hi hi9 ha (by omega) (by omega) (by omega)]
     exact ⟨rfl, .refl _⟩
   ·refine .skip (.blk (.code (.keep [(5, _), (8, _), (9, _), (10, _)] ⟨rfl, rfl, rfl, rfl, trivial⟩ (.region ?_))))
    refine .p rfl rfl (.add rfl rfl (by omega)) (.p rfl rfl (.mv rfl) (.nil ?_))
    exact (again (i + 1) ⟨by omega, by omega, fun j hj hlt => by
     rcases Nat.lt_or_ge j i with h2 | h2
     ·exact ha j hj h2
     ·have : j = i := by omega
      subst this
      omega⟩ (by show _ - (i + 1) < _ - i; omega)).of ⟨rfl, rfl, rfl, rfl, trivial⟩
 ·refine .exit rfl (.code (.seq (.keep [] trivial (.region ?_))))
  refine .p rfl rfl (.as rfl) (.p rfl rfl (.as rfl) (.p rfl rfl (.as rfl) (.nil (.code ?_))))
  refine .ret _ rfl ?_
  rw [read_bad0 (fun j hj => ha j hj (by omega))]
  exact ⟨rfl, .refl _⟩
theorem bClone_fn {w : World} {v : Value} {l : Bs} (h : tBytes.rep All w v l) : Fn Tryz.prog 95 [v] w (fun r w2 => Gr w2 r l w.heap.size ∧ Ext (fun _ => False) w w2) := by
 obtain ⟨a, cap, rfl, hcap⟩ := Sl.val h
 have hlim := Sl.lim h
 simp only [Lim] at hlim
 refine Fn.enter (fun w => Tryz.call95 _ w) Tryz.func95 rfl ?_
 refine .seq (.region ?_)
 refine .p rfl rfl (.as rfl) (.nil (.code (.seq (.seq (.keep [(0, _)] ⟨rfl, trivial⟩ (.region ?_))))))
 refine .p rfl rfl (.mv rfl) (.p rfl rfl (.eqNil rfl rfl rfl) (.nil (.code (.keep [(4, _), (0, _)] ⟨rfl, rfl, trivial⟩ ?_))))
 refine .cond rfl (fun c4 => ?_) (fun c4 => ?_)
 ·refine .seq (.keep [] trivial (.region ?_))
  refine .p rfl rfl (.as rfl) (.nil (.code ?_))
  refine .ret _ rfl ?_
  rw [Sl.isNone0 h c4]
  exact ⟨OwnO.nil, .refl _⟩
 ·refine .skip (.code (.seq (.keep [(0, _)] ⟨rfl, trivial⟩ (.region ?_))))
  refine .v rfl rfl (.lits rfl rfl (fun _ => by kernel_rfl)) ?_
  rintro _ w5 ⟨rfl, N5⟩
  refine .p rfl rfl (.mv rfl) (.v rfl rfl (.appendLo (t := tByte) (Q := fun _ => False) (B := fun k => w.heap.size ≤ k) (eb := 1) rfl (OwnO.ofOwn (Own.ofNew (us := []) N5 .nil (by decide) rfl rfl) (fun _ => Nat.le_refl _)) (fun k hk => by have := N5.size; show w.heap.size ≤ k; omega) rfl (Sl.holds (tBytes.ext0 h N5.ext) (fun _ _ h => h)) rfl rfl rfl rfl rfl rfl rfl (by simp; omega) (by simp [Lim]; omega) (fun _ h _ => h.elim)) ?_)
  rintro v7 w7 ⟨G7, Y7⟩
  refine .p rfl rfl (.as rfl) (.nil (.code ?_))
  refine .ret _ rfl ?_
  exact ⟨G7, N5.ext.then Y7 (fun k hk _ => hk)⟩
theorem Cut_fn {w : World} {v : Value} {b : Bs} (h : tBytes.rep All w v b) : Fn Tryz.prog 59 [v] w (fun r w2 => ∃ v', r = .tuple #[str (cutF b).1, v', i64 (cutF b).2.2] ∧ Gr w2 v' (cutF b).2.1 w.heap.size ∧ Ext (fun _ => False) w w2) := by
 obtain ⟨a, cap, rfl, hcap⟩ := Sl.val h
 obtain ⟨hr1, hr2⟩ := readF_bd b
 have hlim := Sl.lim h
 simp only [Lim] at hlim
 refine Fn.enter (fun w => Tryz.call59 _ w) Tryz.func59 rfl ?_
 refine .seq (.region ?_)
 refine .p rfl rfl (.as rfl) (.p rfl rfl (.as rfl) (.p rfl rfl (.as rfl) (.nil (.code (.seq (.keep [(0, _)] ⟨rfl, trivial⟩ (.region ?_)))))))
 refine .p rfl rfl (.mv rfl) (.call (first := []) (captured := []) rfl rfl rfl rfl (Read_fn h) ?_)
 rintro _ w10 ⟨rfl, X10⟩
 have z10 := X10.size
 refine .p rfl rfl (.mv rfl) (.p rfl rfl (.extract rfl rfl) (.p rfl rfl (.extract rfl rfl) (.p rfl rfl (.extract rfl rfl) (.p rfl rfl (.as rfl) (.p rfl rfl (.as rfl) (.p rfl rfl (.as rfl) (.nil (.code (.seq (.seq (.keep [(7, _), (6, _), (5, _), (0, _)] ⟨rfl, rfl, rfl, rfl, trivial⟩ (.region ?_))))))))))))
 refine .p rfl rfl (.mv rfl) (.p rfl rfl (.ne rfl rfl) (.p rfl rfl (.mv rfl) ?_))
 refine .caseD 16 rfl (fun c16 => ?_) (fun c16 => ?_)
 ·refine .skip rfl rfl (.skip rfl rfl (.skip rfl rfl (.skip rfl rfl (.skip rfl rfl (.skip rfl rfl (.skip rfl rfl (.p rfl rfl (.pickT rfl rfl) (.nil (.code (.keep [(24, _), (6, _), (5, _), (0, _)] ⟨rfl, rfl, rfl, rfl, trivial⟩ (.condT rfl (.seq (.keep [] trivial (.region ?_))))))))))))))
  refine .p rfl rfl (.as rfl) (.p rfl rfl (.as rfl) (.p rfl rfl (.as rfl) (.nil (.code ?_))))
  refine .ret _ rfl ?_
  exact ⟨_, by unfold cutF; rw [if_pos (.inl c16)]; rfl, by unfold cutF; rw [if_pos (.inl c16)]; exact OwnO.nil, X10⟩
 ·refine .p rfl rfl (.mv rfl) (.p rfl rfl (.mv rfl) (.p rfl rfl (.len rfl rfl) (.p rfl rfl (.mv rfl) (.p rfl rfl (.sub rfl rfl (by omega)) (.p rfl rfl (.convU rfl rfl rfl (by omega)) (.p rfl rfl (.gt rfl rfl) (.p rfl rfl (.pickF rfl rfl) (.nil (.code (.keep [(24, _), (6, _), (5, _), (0, _)] ⟨rfl, rfl, rfl, rfl, trivial⟩ ?_))))))))))
  refine .condD rfl (fun c24 => ?_) (fun c24 => ?_)
  ·refine .seq (.keep [] trivial (.region ?_))
   refine .p rfl rfl (.as rfl) (.p rfl rfl (.as rfl) (.p rfl rfl (.as rfl) (.nil (.code ?_))))
   refine .ret _ rfl ?_
   exact ⟨_, by unfold cutF; rw [if_pos (.inr (by omega))]; rfl, by unfold cutF; rw [if_pos (.inr (by omega))]; exact OwnO.nil, X10⟩
  ·obtain ⟨a27, c27, hv27, hc27, R27⟩ := Sl.cutE h (readF b).2.1 b.length (by omega) (by omega)
   rw [List.take_length] at R27
   obtain ⟨a30, c30, hv30, hc30, R30⟩ := Sl.cutE R27 0 (readF b).1 (by omega) (by omega)
   rw [List.drop_zero] at R30
   obtain ⟨a34, c34, hv34, hc34, R34⟩ := Sl.cutE R27 (readF b).1 (b.length - (readF b).2.1) (by omega) (by omega)
   rw [List.take_of_length_le (by simp)] at R34
   refine .skip (.code (.seq (.keep [(6, _), (5, _), (0, _)] ⟨rfl, rfl, rfl, trivial⟩ (.region ?_))))
   refine .p rfl rfl (.mv rfl) (.p rfl rfl (.mv rfl) (.p rfl rfl (.cast (.cutLo (s := 1) rfl rfl rfl rfl (by omega)) (show cutV 1 a cap ((readF b).2.1 : Int).toNat b.length = .slice a27 (b.length - (readF b).2.1) c27 by rw [Int.toNat_natCast]; exact hv27)) (.p rfl rfl (.as rfl) (.nil (.code (.seq (.keep [(0, _), (5, _)] ⟨rfl, rfl, trivial⟩ (.mix (fun _ => False) [7] (by kernel_rfl) (by kernel_rfl) (by kernel_rfl) ?_))))))))
   refine .p rfl rfl rfl (fun wx hx => .mv rfl) (.p rfl rfl rfl (fun wx hx => .mv rfl) (.p rfl rfl rfl (fun wx hx => .cast (.cutHi (s := 1) rfl rfl rfl rfl (by omega)) (show cutV 1 a27 c27 0 ((readF b).1 : Int).toNat = .slice a30 ((readF b).1 - 0) c30 by rw [Int.toNat_natCast]; exact hv30)) (.p rfl rfl rfl (fun wx hx => .bytesStr rfl (tBytes.ext0 R30 (X10.trans hx)) rfl rfl rfl) (.p rfl rfl rfl (fun wx hx => .mv rfl) (.p rfl rfl rfl (fun wx hx => .mv rfl) (.p rfl rfl rfl (fun wx hx => .cast (.cutLo (s := 1) rfl rfl rfl rfl (by omega)) (show cutV 1 a27 c27 ((readF b).1 : Int).toNat (b.length - (readF b).2.1) = .slice a34 (b.length - (readF b).2.1 - (readF b).1) c34 by rw [Int.toNat_natCast]; exact hv34)) (.call (first := []) (captured := []) rfl rfl rfl rfl rfl (bClone_fn (tBytes.ext0 R34 X10)) (by rintro _ _ ⟨_, hx⟩; exact hx) ?_)))))))
   rintro r35 w35 ⟨G35, X35⟩
   refine .p rfl rfl rfl (fun wx hx => .as rfl) (.p rfl rfl rfl (fun wx hx => .as rfl) (.p rfl rfl rfl (fun wx hx => .as rfl) (.nil (.code ?_))))
   refine .ret _ rfl ?_
   have e : cutF b = ((b.drop (readF b).2.1).take (readF b).1, (b.drop (readF b).2.1).drop (readF b).1, 0) := by unfold cutF; rw [if_neg (fun h => h.elim c16 (by omega))]
   rw [e]
   exact ⟨_, rfl, Gr.low G35 z10, X10.trans X35⟩
end Go.Proofs.YtpfehnopghffjaaGreatDoor
