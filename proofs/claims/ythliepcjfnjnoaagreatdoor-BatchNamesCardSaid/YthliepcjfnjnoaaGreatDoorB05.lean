import Derived.Test.YthliepcjfnjnoaaGreatDoorB04
import Derived.Shelf.Strings.SlTrimAscii
import Derived.Test.YthliepcjfnjnoaaGreatDoorRows
import Derived.LaidLaws
import Derived.LaidHandle
import Derived.RowKit
import Derived.RowKitTokens
import Derived.ProofKit
import Derived.OpenShut
import Derived.Stop.Joined
import Derived.Deep.DeepLaidRun
import Derived.Test.YthliepcjfnjnoaaGreatDoorB03
import Derived.Test.YthliepcjfnjnoaaGreatDoorProg
import Derived.Lib.Bytealg
set_option linter.unusedVariables false
set_option linter.unusedSimpArgs false
set_option maxRecDepth 20000
namespace Go.Proofs.YthliepcjfnjnoaaGreatDoor
open Go
namespace files
def ErrV (lo : Nat) (w : World) (v : Value) (e : Int) : Prop := (e = 0 ∧ v = .nilIface) ∨ (¬ e = 0 ∧ ∃ b u, v = .iface 200 (.pointer (some ⟨b, 0, none⟩)) ∧ (lo ≤ b ∧ b < w.heap.size) ∧ Cells w b 0 [i64 e, u])
theorem ErrV.ext {S : Nat → Prop} {lo : Nat} {w w' : World} {v : Value} {e : Int} (h : ErrV lo w v e) (hx : Ext S w w') (hs : ∀ k, lo ≤ k → k < w.heap.size → ¬ S k) : ErrV lo w' v e := by
  rcases h with h | ⟨h1, b, u, h2, hb, h3⟩
  · exact .inl h
  · exact .inr ⟨h1, b, u, h2, ⟨hb.1, Nat.lt_of_lt_of_le hb.2 hx.size⟩, h3.ext hx (hs b hb.1 hb.2)⟩
theorem ErrV.ext0 {lo : Nat} {w w' : World} {v : Value} {e : Int} (h : ErrV lo w v e) (hx : Ext (fun _ => False) w w') : ErrV lo w' v e := h.ext hx (fun _ _ _ h => h)
theorem ErrV.low {lo lo' : Nat} {w : World} {v : Value} {e : Int} (h : ErrV lo w v e) (hl : lo' ≤ lo) : ErrV lo' w v e := by
  rcases h with h | ⟨h1, b, u, h2, hb, h3⟩
  · exact .inl h
  · exact .inr ⟨h1, b, u, h2, ⟨Nat.le_trans hl hb.1, hb.2⟩, h3⟩
def GOK (w : World) : Prop := w.cell? ⟨0, 0, none⟩ = some (.iface 214 (.agg #[.pointer (some ⟨9, 113, none⟩)]))
theorem GOK.ext {S : Nat → Prop} {w w' : World} (h : GOK w) (hx : Ext S w w') (hs : ¬ S 0) : GOK w' := hx.cell h hs
theorem GOK.ext0 {w w' : World} (h : GOK w) (hx : Ext (fun _ => False) w w') : GOK w' := h.ext hx (fun h => h)
theorem GOK.lt {w : World} (h : GOK w) : 0 < w.heap.size := World.block_lt_of_cell? w _ h
theorem As_nil_fn {w : World} {t : Value} : Fn Tryz.prog 90 [.nilIface, t] w (fun r w2 => r = .bool false ∧ w2 = w) :=
  ⟨fun w' => Tryz.call90 _ w', fun w' hw => (as_nil t w').mono fun ev w2 ⟨h1, h2⟩ => ⟨.bool false, w, h2 ▸ hw, h1, rfl, rfl⟩⟩
theorem As_hit_fn {w : World} {e t : Addr} {old : Value} (hg : GOK w) (ht0 : w.cell? t = some old) (hf0 : w.frozen? t = false) :
    Fn Tryz.prog 90 [.iface 200 (.pointer (some e)), .iface 201 (.pointer (some t))] w (fun r w2 => r = .bool true ∧ w2.cell? t = some (.pointer (some e)) ∧ Ext (fun k => k = t.block) w w2) := by
  refine ⟨fun w' => Tryz.call90 _ w', fun w' hw => (as_hit e t old w' ((hw.cell _).trans hg) ((hw.cell _).trans ht0) ((hw.frozen _).trans hf0)).mono ?_⟩
  rintro ev w2 ⟨rfl, rfl⟩
  have htl : t.block < w'.heap.size := World.block_lt_of_cell? w' t ((hw.cell _).trans ht0)
  refine ⟨_, _, .refl _, rfl, rfl, ?_, ?_⟩
  · refine World.cell?_setCell_same' _ _ _ ?_
    rw [World.cell?_alloc_lt _ _ t (by simp; omega), World.cell?_alloc_lt _ _ t (by simp; omega), World.cell?_alloc_lt _ _ t (by simp; omega), World.cell?_alloc_lt _ _ t htl, (hw.cell _).trans ht0]
    rfl
  · exact ((((Ext.same hw).trans (Ext.alloc _ _)).trans (Ext.alloc _ _)).trans (Ext.alloc _ _)).trans ((Ext.alloc _ _).trans (Ext.setCell (S := fun k => k = t.block) _ rfl _))
end files
open files
theorem Ev.neErr {P : Program} {e : Env} {w : World} {x : Operand} {T T' : TypeId} {v : Value} {lo : Nat} {n : Int} {ms : Array (String × TypeId)} (h : ErrV lo w v n) (hx : look e x = some v) (hT : P.underlying T = some (.interface ms)) : Ev P e (.binOp .neq T x (.const .nilIface) T') w (.bool (decide (¬ n = 0))) := by
  rcases h with ⟨rfl, rfl⟩ | ⟨h1, b, u, rfl, _⟩
  · exact Ev.neNilN hx hT
  · rw [decide_eq_true h1]; exact Ev.neNilS hx hT
theorem fail_fn {w : World} {e : Int} (he : ¬ e = 0) : Fn Tryz.prog 78 [i64 e] w (fun r w2 => ErrV w.heap.size w2 r e ∧ Ext (fun _ => False) w w2) := by
  refine Fn.enter (fun w => Tryz.call78 _ w) Tryz.func78 rfl ?_
  refine .seq (.region ?_)
  refine .p rfl rfl (.as rfl) ?_
  refine .nil (.code (.seq (.keep [(0, _)] ⟨rfl, trivial⟩ (.region ?_))))
  refine .p rfl rfl (.mv rfl) ?_
  refine .p rfl rfl (.mv rfl) ?_
  refine .p rfl rfl (.mkIface rfl rfl rfl) ?_
  refine .p rfl rfl (.build (cs := [i64 e, .iface 25 (i64 e)]) rfl (fun _ => by kernel_rfl)) ?_
  refine .v rfl rfl (.box rfl) ?_
  rintro _ w7 ⟨rfl, N7⟩
  refine .p rfl rfl (.mkIface rfl rfl rfl) ?_
  refine .p rfl rfl (.as rfl) ?_
  refine .nil (.code ?_)
  refine .ret _ rfl ?_
  exact ⟨.inr ⟨he, _, _, rfl, ⟨Nat.le_refl _, by rw [N7.size]; omega⟩, N7.blk.cells⟩, N7.ext⟩
theorem number_nil {w : World} : Fn Tryz.prog 75 [.nilIface] w (fun r w2 => r = i64 0 ∧ Ext (fun _ => False) w w2) := by
  refine Fn.enter (fun w => Tryz.call75 _ w) Tryz.func75 rfl ?_
  refine .seq (.region ?_)
  refine .p rfl rfl (.as rfl) ?_
  refine .nil (.code (.seq (.keep [(0, _)] ⟨rfl, trivial⟩ (.region ?_))))
  refine .v rfl rfl (.alloc rfl rfl) ?_
  rintro _ w3 ⟨rfl, N3⟩
  refine .nil (.code (.seq (.seq (.region ?_))))
  refine .p rfl rfl (.mv rfl) ?_
  refine .p rfl rfl (.mkIface rfl rfl rfl) ?_
  refine .call (first := []) (captured := []) rfl rfl rfl rfl (As_nil_fn) ?_
  rintro r6 w6 ⟨rfl, rfl⟩
  refine .nil (.code (.keep [(6, _), (3, _)] ⟨rfl, rfl, trivial⟩ (.condF rfl (.skip (.code (.seq (.keep [] trivial (.region ?_))))))))
  refine .p rfl rfl (.as rfl) ?_
  refine .nil (.code ?_)
  refine .ret _ rfl ?_
  exact ⟨rfl, N3.ext⟩
theorem number_some {w : World} {b : Nat} {e : Int} {u : Value} (hg : GOK w) (hb : b < w.heap.size) (hc : Cells w b 0 [i64 e, u]) : Fn Tryz.prog 75 [.iface 200 (.pointer (some ⟨b, 0, none⟩))] w (fun r w2 => r = i64 e ∧ Ext (fun _ => False) w w2) := by
  refine Fn.enter (fun w => Tryz.call75 _ w) Tryz.func75 rfl ?_
  refine .seq (.region ?_)
  refine .p rfl rfl (.as rfl) ?_
  refine .nil (.code (.seq (.keep [(0, _)] ⟨rfl, trivial⟩ (.region ?_))))
  refine .v rfl rfl (.alloc rfl rfl) ?_
  rintro _ w3 ⟨rfl, N3⟩
  refine .nil (.code (.seq (.seq (.region ?_))))
  refine .p rfl rfl (.mv rfl) ?_
  refine .p rfl rfl (.mkIface rfl rfl rfl) ?_
  refine .call (first := []) (captured := []) rfl rfl rfl rfl (As_hit_fn (hg.ext0 N3.ext) (N3.blk.cell 0) (N3.blk.thawed 0 (by decide))) ?_
  rintro r6 w6 ⟨rfl, hc6, X6⟩
  refine .nil (.code (.keep [(6, _), (3, _)] ⟨rfl, rfl, trivial⟩ (.condT rfl (.seq (.keep [(3, _)] ⟨rfl, trivial⟩ (.region ?_))))))
  refine .p rfl rfl (.load rfl rfl rfl hc6) ?_
  refine .p rfl rfl (.nilCheck rfl) ?_
  refine .p rfl rfl (.fieldAddr rfl rfl rfl rfl) ?_
  refine .p rfl rfl (.load rfl rfl rfl (((hc.ext N3.ext (fun h => h)).ext X6 (fun h => by have h : b = w.heap.size := h; omega)) 0 _ rfl)) ?_
  refine .p rfl rfl (.as rfl) ?_
  refine .nil (.code ?_)
  refine .ret _ rfl ?_
  exact ⟨rfl, N3.ext.then X6 (by rintro k rfl _; exact Nat.le_refl _)⟩
theorem number_fn {lo : Nat} {w : World} {v : Value} {e : Int} (hg : GOK w) (h : ErrV lo w v e) : Fn Tryz.prog 75 [v] w (fun r w2 => r = i64 e ∧ Ext (fun _ => False) w w2) := by
  rcases h with ⟨rfl, rfl⟩ | ⟨_, b, u, rfl, hb, hc⟩
  · exact number_nil
  · exact number_some hg hb.2 hc
theorem fsec_fn {w : World} {n : Int} (hn : 0 ≤ n ∧ n ≤ 9223372036854775000) : Fn Tryz.prog 119 [i64 n] w (fun r w2 => r = i64 ((n + 127) / 128) ∧ w2 = w) := by
  refine Fn.enter (fun w => Tryz.call119 _ w) Tryz.func119 rfl ?_
  refine .seq (.region ?_)
  refine .p rfl rfl (.as rfl) ?_
  refine .nil (.code (.seq (.keep [(0, _)] ⟨rfl, trivial⟩ (.region ?_))))
  refine .p rfl rfl (.mv rfl) ?_
  refine .p rfl rfl (.add rfl rfl (by omega)) ?_
  refine .p rfl rfl (.sub rfl rfl (by omega)) ?_
  refine .p rfl rfl (.cast (.quo rfl rfl (by omega)) (show _ = i64 ((n + 127) / 128) by congr 1; first | omega | (rw [Int.tdiv_eq_ediv_of_nonneg (by omega)]; omega))) ?_
  refine .p rfl rfl (.as rfl) ?_
  refine .nil (.code ?_)
  refine .ret _ rfl ?_
  exact ⟨rfl, rfl⟩
end Go.Proofs.YthliepcjfnjnoaaGreatDoor
namespace Go.Proofs.YthliepcjfnjnoaaGreatDoor
open Go Go.RowKit files
namespace files
theorem own : ownKnob Tryz.prog.godebug = none := by kernel_rfl
theorem tyError : (List.range Tryz.prog.types.size).filter (fun t => Tryz.prog.rowNamed t [101, 114, 114, 111, 114]) = [113] := by kernel_rfl
theorem tyRt : (Tryz.prog.cutTypes.find? (·.1 == "internal/reflectlite.rtype")).map (·.2) = some 214 := by kernel_rfl
theorem glErr : Tryz.prog.globalNamed "errors.errorType" = some 0 := by kernel_rfl
def L0 : List (String × DataW Unit) := [("math/bits.deBruijn32tab", Rows.laid_math_bits_deBruijn32tab), ("math/bits.deBruijn64tab", Rows.laid_math_bits_deBruijn64tab), ("internal/strconv.uint64pow10", Rows.laid_internal_strconv_uint64pow10), ("unicode/utf8.acceptRanges", Rows.laid_unicode_utf8_acceptRanges), ("errors.errorType", Rows.laid_errors_errorType), ("strconv.ErrRange", Rows.laid_strconv_ErrRange), ("strconv.ErrSyntax", Rows.laid_strconv_ErrSyntax), ("unicode/utf8.first", Rows.laid_unicode_utf8_first)]
theorem gok_of_laid {W : World} (h : laidMetH Tryz.prog L0 W) : GOK W := by
  have h' : laidMet Tryz.prog [("math/bits.deBruijn32tab", Rows.laid_math_bits_deBruijn32tab), ("math/bits.deBruijn64tab", Rows.laid_math_bits_deBruijn64tab), ("internal/strconv.uint64pow10", Rows.laid_internal_strconv_uint64pow10), ("unicode/utf8.acceptRanges", Rows.laid_unicode_utf8_acceptRanges), ("strconv.ErrRange", Rows.laid_strconv_ErrRange), ("strconv.ErrSyntax", Rows.laid_strconv_ErrSyntax), ("unicode/utf8.first", Rows.laid_unicode_utf8_first)] W ∧ handlesMet Tryz.prog [("errors.errorType", Rows.laid_errors_errorType)] W := h
  obtain ⟨name, u, ty, e1, e2, e3, e4, e5⟩ := h'.2 _ (List.mem_singleton.2 rfl)
  have en : name = [101, 114, 114, 111, 114] := (Option.some.inj e1).symm
  subst en
  obtain rfl := Option.some.inj (tyRt.symm.trans e2)
  have hm : ty ∈ (List.range Tryz.prog.types.size).filter fun t => Tryz.prog.rowNamed t [101, 114, 114, 111, 114] := List.mem_filter.2 ⟨List.mem_range.2 e3, e4⟩
  rw [tyError] at hm
  obtain rfl := List.mem_singleton.1 hm
  have hh : typeHandle Tryz.prog 113 = .pointer (some ⟨9, 113, none⟩) := by kernel_rfl
  rw [hh] at e5
  have := World.var?_cell glErr e5 0
  unfold GOK
  simpa using this
noncomputable def accCells : Array Value := (([128, 191, 160, 191, 128, 159, 144, 191, 128, 143] ++ List.replicate 22 0).map (fun (n : Nat) => Value.int .u8 n)).toArray
noncomputable def firstCells : Array Value := (Go.Pinned.utf8FirstZ.map (fun (n : Nat) => Value.int .u8 n)).toArray
noncomputable def putIn (cs : Array Value) : Obj → Obj
  | .cells _ t frozen => .cells cs t frozen
  | o => o
noncomputable def rowOf (k : IntKind) (l : List Nat) : Array Value := (l.map (fun (n : Nat) => Value.int k n)).toArray
noncomputable def baseHeap (os : Os) : Array Obj := (World.holding Tryz.prog os ⟨#[], #[], []⟩).heap
noncomputable def laidWorld (os : Os) : World :=
  { World.holding Tryz.prog os ⟨#[], #[], []⟩ with heap := ((((((((((baseHeap os).modify 7 (putIn (rowOf .u8 [0, 1, 28, 2, 29, 14, 24, 3, 30, 22, 20, 15, 25, 17, 4, 8, 31, 27, 13, 23, 21, 19, 16, 7, 26, 12, 18, 6, 11, 5, 10, 9]))).modify 8 (putIn (rowOf .u8 [0, 1, 56, 2, 57, 49, 28, 3, 61, 58, 42, 50, 38, 29, 17, 4, 62, 47, 59, 36, 45, 43, 51, 22, 53, 39, 33, 30, 24, 18, 12, 5, 63, 55, 48, 27, 60, 41, 37, 16, 46, 35, 44, 21, 52, 32, 23, 11, 54, 26, 40, 15, 34, 20, 31, 10, 25, 14, 19, 9, 13, 8, 7, 6]))).modify 4 (putIn (rowOf .u64 [1, 10, 100, 1000, 10000, 100000, 1000000, 10000000, 100000000, 1000000000, 10000000000, 100000000000, 1000000000000, 10000000000000, 100000000000000, 1000000000000000, 10000000000000000, 100000000000000000, 1000000000000000000, 10000000000000000000]))).modify 0 (putIn #[.iface 214 (.agg #[.pointer (some ⟨9, 113, none⟩)])])).modify 5 (putIn firstCells)).modify 6 (putIn accCells)).modify 3 (putIn #[.iface 368 (.pointer (some ⟨(baseHeap os).size, 0, none⟩))])).modify 2 (putIn #[.iface 368 (.pointer (some ⟨(baseHeap os).size + 1, 0, none⟩))])).push (.cells #[str [118, 97, 108, 117, 101, 32, 111, 117, 116, 32, 111, 102, 32, 114, 97, 110, 103, 101]] 370 (0, 0))).push (.cells #[str [105, 110, 118, 97, 108, 105, 100, 32, 115, 121, 110, 116, 97, 120]] 370 (0, 0)) }
theorem laid_met (os : Os) (args : Array Value) : laidMetH Tryz.prog L0 ((laidWorld os).forCall (fun _ _ => 0) ⟨#[], args, []⟩).memory :=
  laidMetH_of_parts (laidMet_of_run3 8 (by kernel_rfl) (by kernel_rfl) (by kernel_rfl)) (by kernel_rfl)
end files
end Go.Proofs.YthliepcjfnjnoaaGreatDoor
namespace Go.Proofs.YthliepcjfnjnoaaGreatDoor
open Go
theorem run_invoke {P : Program} {ρ : Operand → Value} {o : Oper} {c : Operand} {name : String} {f : FuncId} {xs : List Operand} {ats : Array TypeId} {t : TypeId} {v u : Value} {w : World}
    (ho : o.op = .call { callee := .invoke c name, args := xs.toArray, argTypes := ats }) (hc : ρ c = .iface t v) (hm : (method (P.types.size + Made.depth) t v name).run P w = .ok (f, u) w) :
    (execOp ρ o).run P w = (callFunc f (u :: xs.map ρ).toArray).run P w := by
  have hl : List.take xs.length (List.map ρ xs) = List.map ρ xs := List.take_of_length_le (by simp)
  simp [execOp, ho, resolve, hc, invoke, callMethod, hm, hl]
theorem run_wrap {P : Program} (ts : Array TypeId) (t : TypeId) (a : Addr) (x y : String) (w : World) : (Builtin.ssaWrapNilChk_ ts t #[.pointer (some a), strVal x, strVal y]).run P w = .ok (.pointer (some a)) w := rfl
theorem method_ptr {P : Program} {t E : TypeId} {name : String} {f : FuncId} {a : Addr} {d : TypeDesc} {u : Value} {w : World} (k : Nat)
    (h : (P.info? t).map (fun i => (i.methods.find? (·.name == name)).map (fun m => (m.path.toList.isEmpty, m.func))) = some (some (true, some (f, false)))) (hT : P.underlying t = some (.pointer E)) (hE : P.underlying E = some d) (hd : aggD d = false) (hu : w.cell? a = some u) :
    (method (k + 1) t (.pointer (some a)) name).run P w = .ok (f, u) w := by
  cases hi : P.info? t with
  | none => rw [hi] at h; cases h
  | some i =>
    rw [hi] at h
    simp only [Option.map_some, Option.some.injEq] at h
    cases hf : i.methods.find? (·.name == name) with
    | none => rw [hf] at h; cases h
    | some m =>
      rw [hf] at h
      simp only [Option.map_some, Option.some.injEq, Prod.mk.injEq] at h
      obtain ⟨h1, h2⟩ := h
      have h1 : m.path.toList = [] := List.isEmpty_iff.1 h1
      have h3 : m.path = #[] := Array.ext' h1
      simp [method, typeInfo, hi, hf, h3, h2, follow, receiverAt, run_underlying hT, Place.get, run_wrap, asAddr, loadVar, isAgg_run hE, hd, hu]
theorem O.callM {F : Fr} {e : Env} {k : List It} {w : World} {all rest : List Oper} {d : Nat} {ty : TypeId} {pos : String} {af : Array Edge} {g : Option (Nat × Bool)} {c : Operand} {name : String} {f : FuncId} {xs : List Operand} {ats : Array TypeId} {vs : List Value} {t : TypeId} {v u : Value} {Post : Value → World → Prop} (hd : Nat.blt d F.n = true) (hg : gd e all g = some true)
    (hf : look e c = some (.iface t v)) (hx : xs.mapM (look e) = some vs) (hm : ∀ w', Same w w' → (method (F.P.types.size + Made.depth) t v name).run F.P w' = .ok (f, u) w') (hc : Fn F.P f (u :: vs) w Post) (next : ∀ r w2, Post r w2 → O F ((d, r) :: e) all rest k w2) :
    O F e all (⟨some d, .call { callee := .invoke c name, args := xs.toArray, argTypes := ats }, ty, pos, af, g⟩ :: rest) k w := by
  intro w' hw a ha
  refine wpList_step fun K hK => ?_
  rw [if_pos (gd_wanted ha hg)]
  unfold Oper.wp
  rw [run_invoke rfl (ha.ev hf) (hm w' hw), look_args (fun x u hx => ha.ev hx) xs vs hx, hc.1 w', Oper.upon_enter]
  refine (hc.2 w' hw).mono fun en w3 ⟨r, w2, hs, he, hp⟩ => ?_
  subst he
  exact hK _ _ (next r w2 hp w3 hs _ (ha.put hd r))
end Go.Proofs.YthliepcjfnjnoaaGreatDoor
namespace Go.Proofs.YthliepcjfnjnoaaGreatDoor
open Go
def smallK : Nat → Nat → Bs
  | 0, _ => []
  | f + 1, n => if n ≤ 127 then [UInt8.ofNat n] else UInt8.ofNat (n % 128 + 128) :: smallK f (n / 128)
def smallF (n : Nat) : Bs := smallK 10 n
def textF (s : Bs) : Bs := smallF s.length ++ s
theorem smallK_length : ∀ f n, (smallK f n).length ≤ f
  | 0, _ => by simp [smallK]
  | f + 1, n => by
    unfold smallK
    split
    · simp
    · have := smallK_length f (n / 128)
      simp
      omega
theorem smallF_length (n : Nat) : (smallF n).length ≤ 10 := smallK_length 10 n
theorem or128 : ∀ n, n < 256 → UInt8.ofNat n ||| 128 = UInt8.ofNat (n % 128 + 128) := by decide +kernel
theorem or128' (n : Nat) : UInt8.ofNat n ||| 128 = UInt8.ofNat (n % 128 + 128) := by
  have h := or128 (n % 256) (Nat.mod_lt _ (by decide))
  rw [show n % 256 % 128 = n % 128 by omega] at h
  rw [← h]
  congr 1
  rw [← UInt8.toNat_inj]
  simp
theorem one_holds {w w2 : World} {c : UInt8} (N : New w w2 5 [u8 c]) : (∃ a cap, Value.slice (some ⟨w.heap.size, 0, none⟩) 1 1 = .slice a 0 cap ∧ [c] = []) ∨ Holds tByte (fun _ => False) w2 (.slice (some ⟨w.heap.size, 0, none⟩) 1 1) [c] :=
  .inr (New.holds (us := [u8 c]) N (.cons rfl .nil) rfl)
theorem Small_fn {w : World} {n : Nat} (hn : n < 18446744073709551616) : Fn Tryz.prog 23 [.int .u64 n] w (fun r w2 => Gr w2 r (smallF n) w.heap.size ∧ Ext (fun _ => False) w w2) := by
  refine Fn.enter (fun w => Tryz.call23 _ w) Tryz.func23 rfl ?_
  refine .seq (.region ?_)
  refine .p rfl rfl (.as rfl) ?_
  refine .nil (.code (.seq (.keep [(0, _)] ⟨rfl, trivial⟩ (.region ?_))))
  refine .p rfl rfl (.as rfl) ?_
  refine .nil (.code (.seq (.block ?_)))
  refine .loop (S := Nat × Nat × Bs × Value × World) (fun s => [(0, .int .u64 (s.2.1 : Nat)), (3, s.2.2.2.1)]) (fun s => s.2.2.2.2) (fun s => 1 ≤ s.1 ∧ s.1 ≤ 10 ∧ s.2.1 < 18446744073709551616 ∧ s.2.1 < 128 ^ s.1 ∧ smallF n = s.2.2.1 ++ smallK s.1 s.2.1 ∧ s.2.2.1.length ≤ 10 - s.1 ∧ Gr s.2.2.2.2 s.2.2.2.1 s.2.2.1 w.heap.size ∧ Ext (fun _ => False) w s.2.2.2.2) (fun s => s.1) (10, n, [], .slice none 0 0, w) ⟨rfl, rfl, trivial⟩ rfl ⟨(by decide : 1 ≤ 10), (by decide : 10 ≤ 10), hn, Nat.lt_of_lt_of_le hn (by decide : 18446744073709551616 ≤ 128 ^ 10), rfl, (by decide : 0 ≤ 10 - 10), OwnO.nil, .refl _⟩ ?_
  rintro ⟨f, m, acc, v, wi⟩ J ⟨h1, h10, hm64, hm, hs, hl, hG, hX⟩ again
  simp only at h1 h10 hm64 hm hs hl hG hX
  have zi : w.heap.size ≤ wi.heap.size := hX.size
  change G _ [(0, .int .u64 (m : Nat)), (3, v)] _ _ wi
  refine .seq (.seq (.region ?_))
  refine .p rfl rfl (.mv rfl) ?_
  refine .p rfl rfl (.gt rfl rfl) ?_
  refine .nil (.code (.keep [(5, _), (0, _), (3, _)] ⟨rfl, rfl, rfl, trivial⟩ ?_))
  refine .condD rfl (fun c5 => ?_) (fun c5 => ?_)
  · obtain ⟨f, rfl⟩ : ∃ f', f = f' + 1 := ⟨f - 1, by omega⟩
    have hle := smallK_length (f + 1) m
    have hsp : smallK (f + 1) m = UInt8.ofNat (m % 128 + 128) :: smallK f (m / 128) := by rw [smallK, if_neg (by omega)]
    refine .skip (.code (.seq (.block (.keep [(0, _), (3, _)] ⟨rfl, rfl, trivial⟩ (.region ?_)))))
    refine .p rfl rfl (.mv rfl) ?_
    refine .p rfl rfl (.mv rfl) ?_
    refine .p rfl rfl (.cast (.convB rfl rfl rfl (by omega)) (show _ = u8 (UInt8.ofNat m) by rw [Int.toNat_natCast])) ?_
    refine .p rfl rfl (.cast (.or8 (b := 128) rfl rfl) (show _ = u8 (UInt8.ofNat (m % 128 + 128)) by rw [or128'])) ?_
    refine .v rfl rfl (.lits rfl rfl (fun _ => by kernel_rfl)) ?_
    rintro _ w12 ⟨rfl, N12⟩
    have z12 : w12.heap.size = wi.heap.size + 1 := N12.size
    refine .v rfl rfl (.appendLo (t := tByte) (eb := 1) rfl (hG.ext0 N12.ext) (fun k hk => by have hk : w12.heap.size ≤ k := hk; show w.heap.size ≤ k; omega) rfl (one_holds N12) rfl rfl rfl rfl rfl rfl rfl (by simp; omega) (by simp [Lim]; omega) (fun _ h _ => h.elim)) ?_
    rintro r13 w13 ⟨G13, Y13⟩
    have z13 : w12.heap.size ≤ w13.heap.size := Y13.size
    refine .p rfl rfl (.as rfl) ?_
    refine .nil (.blk (.code (.keep [(3, _), (0, _)] ⟨rfl, rfl, trivial⟩ (.region ?_))))
    refine .p rfl rfl (.mv rfl) ?_
    refine .p rfl rfl (.cast (.shrN 7 rfl rfl (by decide)) (show _ = Value.int .u64 ((m / 128 : Nat) : Int) by simp)) ?_
    refine .p rfl rfl (.as rfl) ?_
    refine .nil ?_
    have hf1 : 1 ≤ f := by
      rcases Nat.eq_zero_or_pos f with rfl | h
      · have : m < 128 := by simpa using hm
        omega
      · exact h
    exact (again (f, m / 128, acc ++ [UInt8.ofNat (m % 128 + 128)], r13, w13) ⟨hf1, by show f ≤ 10; omega, by show m / 128 < _; omega, by show m / 128 < 128 ^ f; rw [Nat.pow_succ] at hm; omega, by show smallF n = (acc ++ [_]) ++ smallK f (m / 128); rw [hs, hsp, List.append_assoc]; rfl, by show (acc ++ [_]).length ≤ 10 - f; simp; omega, G13, (hX.trans N12.ext).then Y13 (fun k hk _ => hk)⟩ (by show f < f + 1; omega)).of ⟨rfl, rfl, trivial⟩
  · obtain ⟨f, rfl⟩ : ∃ f', f = f' + 1 := ⟨f - 1, by omega⟩
    have hsp : smallK (f + 1) m = [UInt8.ofNat m] := by rw [smallK, if_pos (by omega)]
    refine .exit rfl (.code (.seq (.keep [(0, _), (3, _)] ⟨rfl, rfl, trivial⟩ (.region ?_))))
    refine .p rfl rfl (.mv rfl) ?_
    refine .p rfl rfl (.mv rfl) ?_
    refine .p rfl rfl (.cast (.convB rfl rfl rfl (by omega)) (show _ = u8 (UInt8.ofNat m) by rw [Int.toNat_natCast])) ?_
    refine .v rfl rfl (.lits rfl rfl (fun _ => by kernel_rfl)) ?_
    rintro _ w17 ⟨rfl, N17⟩
    have z17 : w17.heap.size = wi.heap.size + 1 := N17.size
    refine .v rfl rfl (.appendLo (t := tByte) (eb := 1) rfl (hG.ext0 N17.ext) (fun k hk => by have hk : w17.heap.size ≤ k := hk; show w.heap.size ≤ k; omega) rfl (one_holds N17) rfl rfl rfl rfl rfl rfl rfl (by simp; omega) (by simp [Lim]; omega) (fun _ h _ => h.elim)) ?_
    rintro r18 w18 ⟨G18, Y18⟩
    have z18 : w17.heap.size ≤ w18.heap.size := Y18.size
    refine .p rfl rfl (.as rfl) ?_
    refine .nil (.code ?_)
    refine .ret _ rfl ?_
    exact ⟨by rw [hs, hsp]; exact G18, (hX.trans N17.ext).then Y18 (fun k hk _ => hk)⟩
theorem Text_fn {w : World} {l : Bs} (hl : l.length < Lim) (hl2 : l.length + 10 < Lim) : Fn Tryz.prog 24 [str l] w (fun r w2 => Gr w2 r (textF l) w.heap.size ∧ Ext (fun _ => False) w w2) := by
  simp only [Lim] at hl
  have hsl := smallF_length l.length
  refine Fn.enter (fun w => Tryz.call24 _ w) Tryz.func24 rfl ?_
  refine .seq (.region ?_)
  refine .p rfl rfl (.as rfl) ?_
  refine .nil (.code (.seq (.keep [(0, _)] ⟨rfl, trivial⟩ (.region ?_))))
  refine .p rfl rfl (.mv rfl) ?_
  refine .p rfl rfl (.lenS rfl rfl) ?_
  refine .p rfl rfl (.convU rfl rfl rfl (by omega)) ?_
  refine .call (first := []) (captured := []) rfl rfl rfl rfl (Small_fn (n := l.length) (by omega)) ?_
  rintro r6 w6 ⟨G6, X6⟩
  have z6 : w.heap.size ≤ w6.heap.size := X6.size
  refine .p rfl rfl (.mv rfl) ?_
  refine .v rfl rfl (.appendSLo rfl G6 (fun k hk => by have hk : w6.heap.size ≤ k := hk; show w.heap.size ≤ k; omega) rfl rfl rfl rfl rfl rfl rfl rfl (by simp only [Lim] at hl2 ⊢; omega) (fun _ h _ => h.elim)) ?_
  rintro r8 w8 ⟨G8, Y8⟩
  refine .p rfl rfl (.as rfl) ?_
  refine .nil (.code ?_)
  refine .ret _ rfl ?_
  exact ⟨G8, X6.then Y8 (fun k hk _ => hk)⟩
end Go.Proofs.YthliepcjfnjnoaaGreatDoor
namespace Go.Proofs.YthliepcjfnjnoaaGreatDoor
open Go
namespace page
structure Entry where
  key : Bs
  value : Bs
  seq : Int
  gone : Bool
deriving DecidableEq
def tEntry : Ty Entry := (tStr.pair (tStr.pair (tInt.pair tBool))).map (fun x => (x.key, x.value, x.seq, x.gone))
theorem tEntry.val {P : Nat → Prop} {w : World} {v : Value} {x : Entry} (h : tEntry.rep P w v x) : v = .agg #[str x.key, str x.value, i64 x.seq, .bool x.gone] ∧ x.key.length < Lim ∧ x.value.length < Lim ∧ -9223372036854775808 ≤ x.seq ∧ x.seq ≤ 9223372036854775807 := by
  obtain ⟨_, _, rfl, ⟨rfl, h1⟩, _, _, rfl, ⟨rfl, h2⟩, _, _, rfl, ⟨rfl, h3⟩, rfl⟩ := h
  exact ⟨rfl, h1, h2, h3⟩
theorem tEntry.mk {P : Nat → Prop} {w : World} {x : Entry} (h1 : x.key.length < Lim) (h2 : x.value.length < Lim) (h3 : -9223372036854775808 ≤ x.seq ∧ x.seq ≤ 9223372036854775807) : tEntry.rep P w (.agg #[str x.key, str x.value, i64 x.seq, .bool x.gone]) x :=
  ⟨str x.key, .agg #[str x.value, i64 x.seq, .bool x.gone], rfl, ⟨rfl, h1⟩, str x.value, .agg #[i64 x.seq, .bool x.gone], rfl, ⟨rfl, h2⟩, i64 x.seq, .bool x.gone, rfl, ⟨rfl, h3⟩, rfl⟩
def orI (a b : Int) : Int := if a = 0 then b else a
def cmpI (a b : Int) : Int := if a < b then -1 else if b < a then 1 else 0
def lessE (a b : Entry) : Bool := decide (orI (Lib.compareBytes a.key b.key) (cmpI b.seq a.seq) < 0)
theorem cmpB_range : ∀ a b : Bs, -1 ≤ Lib.compareBytes a b ∧ Lib.compareBytes a b ≤ 1
  | [], [] => by simp [Lib.compareBytes]
  | [], _ :: _ => by simp [Lib.compareBytes]
  | _ :: _, [] => by simp [Lib.compareBytes]
  | a :: xs, b :: ys => by
    unfold Lib.compareBytes
    split
    · decide
    · split
      · decide
      · exact cmpB_range xs ys
theorem cmpI_range (a b : Int) : -1 ≤ cmpI a b ∧ cmpI a b ≤ 1 := by unfold cmpI; split; decide; split <;> decide
def oneE (x : Entry) : Int := if x.key = [] ∨ 256 < x.key.length then 60 else if 4096 < x.value.length then 3 else if x.seq < 0 ∨ 2147483647 < x.seq then 2 else if x.gone = true ∧ ¬ x.value = [] then 8 else 0
def ahd (p : Option Entry) (x : Entry) : Bool := match p with | some y => !lessE y x | none => false
def chk : Option Entry → List Entry → Int
  | _, [] => 0
  | p, x :: r => if ¬ oneE x = 0 then oneE x else if ahd p x = true then 100 else chk (some x) r
theorem chk_cons (p : Option Entry) (x : Entry) (r : List Entry) : chk p (x :: r) = if ¬ oneE x = 0 then oneE x else if ahd p x = true then 100 else chk (some x) r := rfl
def checkE (l : List Entry) : Int := if 4096 < l.length then 4 else chk none l
def aheadE (l : List Entry) : Nat → Option Entry
  | 0 => none
  | i + 1 => l[i]?
theorem chk_step {l : List Entry} {i : Nat} (h : i < l.length) : chk (aheadE l i) (l.drop i) = if ¬ oneE l[i] = 0 then oneE l[i] else if ahd (aheadE l i) l[i] = true then 100 else chk (aheadE l (i + 1)) (l.drop (i + 1)) := by
  rw [List.drop_eq_getElem_cons h, chk_cons]
  have : aheadE l (i + 1) = some l[i] := by show l[i]? = _; exact List.getElem?_eq_getElem h
  rw [this]
theorem chk_ok : ∀ {l : List Entry} {p : Option Entry}, chk p l = 0 → ∀ x ∈ l, oneE x = 0
  | [], _, _, _, hx => by cases hx
  | y :: l, p, h, x, hx => by
    rw [chk_cons] at h
    split at h
    · rename_i h1; exact absurd h h1
    · rename_i h1
      have h2 : chk (some y) l = 0 := by
        by_cases hq : ahd p y = true
        · rw [if_pos hq] at h; cases h
        · rw [if_neg hq] at h; exact h
      rcases List.mem_cons.1 hx with rfl | hx
      · exact Decidable.byContradiction h1
      · exact chk_ok h2 x hx
end page
open page
theorem cmpstr (a b : Bs) (w : World) : (callFunc 204 #[str a, str b]).run Tryz.prog w = .ok (.value (i64 (Lib.compareBytes a b))) w := by
  rw [run_callFunc_extern Tryz.func204 (by kernel_rfl) (by kernel_rfl) (by kernel_rfl) (e := Extern.BytealgCompare.compare) (by kernel_rfl)]
  have := Lib.run_compareString (P := Tryz.prog) (bs a) (bs b) w
  rw [show #[str a, str b] = #[Value.string (bs a), Value.string (bs b)] from rfl, this]
  rfl
theorem CompareString_fn {w : World} {a b : Bs} : Fn Tryz.prog 166 [str a, str b] w (fun r w2 => r = i64 (Lib.compareBytes a b) ∧ Ext (fun _ => False) w w2) := by
  refine Fn.enter (fun w => Tryz.call166 _ w) Tryz.func166 rfl ?_
  refine .seq (.region ?_)
  refine .p rfl rfl (.as rfl) ?_
  refine .nil (.code (.seq (.keep [(0, _), (1, _)] ⟨rfl, rfl, trivial⟩ (.region ?_))))
  refine .p rfl rfl (.mv rfl) ?_
  refine .p rfl rfl (.mv rfl) ?_
  refine .p rfl rfl (.callX rfl rfl (cmpstr a b)) ?_
  refine .p rfl rfl (.as rfl) ?_
  refine .nil (.code ?_)
  refine .ret _ rfl ?_
  exact ⟨rfl, .refl _⟩
theorem strCompare_fn {w : World} {a b : Bs} : Fn Tryz.prog 108 [str a, str b] w (fun r w2 => r = i64 (Lib.compareBytes a b) ∧ Ext (fun _ => False) w w2) := by
  refine Fn.enter (fun w => Tryz.call108 _ w) Tryz.func108 rfl ?_
  refine .seq (.region ?_)
  refine .p rfl rfl (.as rfl) ?_
  refine .nil (.code (.seq (.keep [(0, _), (1, _)] ⟨rfl, rfl, trivial⟩ (.region ?_))))
  refine .p rfl rfl (.mv rfl) ?_
  refine .p rfl rfl (.mv rfl) ?_
  refine .call (first := []) (captured := []) rfl rfl rfl rfl (CompareString_fn (a := a) (b := b)) ?_
  rintro _ w7 ⟨rfl, X7⟩
  refine .p rfl rfl (.as rfl) ?_
  refine .nil (.code ?_)
  refine .ret _ rfl ?_
  exact ⟨rfl, X7⟩
theorem isNaN_fn {w : World} {a : Int} : Fn Tryz.prog 167 [i64 a] w (fun r w2 => r = .bool false ∧ Ext (fun _ => False) w w2) := by
  refine Fn.enter (fun w => Tryz.call167 _ w) Tryz.func167 rfl ?_
  refine .seq (.region ?_)
  refine .p rfl rfl (.as rfl) ?_
  refine .nil (.code (.seq (.keep [(0, _)] ⟨rfl, trivial⟩ (.region ?_))))
  refine .p rfl rfl (.mv rfl) ?_
  refine .p rfl rfl (.mv rfl) ?_
  refine .p rfl rfl (.no (.ne rfl rfl) (fun h => h rfl)) ?_
  refine .p rfl rfl (.as rfl) ?_
  refine .nil (.code ?_)
  refine .ret _ rfl ?_
  exact ⟨rfl, .refl _⟩
theorem cmpCompare_fn {w : World} {a b : Int} : Fn Tryz.prog 109 [i64 a, i64 b] w (fun r w2 => r = i64 (cmpI a b) ∧ Ext (fun _ => False) w w2) := by
  refine Fn.enter (fun w => Tryz.call109 _ w) Tryz.func109 rfl ?_
  refine .seq (.region ?_)
  refine .p rfl rfl (.as rfl) ?_
  refine .nil (.code (.seq (.keep [(0, _), (1, _)] ⟨rfl, rfl, trivial⟩ (.region ?_))))
  refine .p rfl rfl (.mv rfl) ?_
  refine .call (first := []) (captured := []) rfl rfl rfl rfl (isNaN_fn (a := a)) ?_
  rintro _ w8 ⟨rfl, X8⟩
  refine .p rfl rfl (.as rfl) ?_
  refine .nil (.code (.seq (.keep [(5, _), (0, _), (1, _)] ⟨rfl, rfl, rfl, trivial⟩ (.region ?_))))
  refine .p rfl rfl (.mv rfl) ?_
  refine .call (first := []) (captured := []) rfl rfl rfl rfl (isNaN_fn (a := b)) ?_
  rintro _ w10 ⟨rfl, X10⟩
  refine .p rfl rfl (.as rfl) ?_
  refine .nil (.code (.seq (.seq (.keep [(6, _), (5, _), (0, _), (1, _)] ⟨rfl, rfl, rfl, rfl, trivial⟩ (.region ?_)))))
  refine .p rfl rfl (.mv rfl) ?_
  refine .nil (.code (.keep [(11, _), (6, _), (0, _), (1, _)] ⟨rfl, rfl, rfl, rfl, trivial⟩ (.condF rfl (.skip (.code (.seq (.seq (.keep [(6, _), (0, _), (1, _)] ⟨rfl, rfl, rfl, trivial⟩ (.region ?_)))))))))
  refine .p rfl rfl (.mv rfl) ?_
  refine .nil (.code (.keep [(13, _), (0, _), (1, _)] ⟨rfl, rfl, rfl, trivial⟩ (.condF rfl (.skip (.code (.seq (.seq (.keep [(0, _), (1, _)] ⟨rfl, rfl, trivial⟩ (.region ?_)))))))))
  refine .p rfl rfl (.mv rfl) ?_
  refine .p rfl rfl (.mv rfl) ?_
  refine .p rfl rfl (.lt rfl rfl) ?_
  refine .nil (.code (.keep [(16, _), (0, _), (1, _)] ⟨rfl, rfl, rfl, trivial⟩ ?_))
  refine .condD rfl (fun c16 => ?_) (fun c16 => ?_)
  · refine .seq (.keep [] trivial (.region ?_))
    refine .p rfl rfl (.as rfl) ?_
    refine .nil (.code ?_)
    refine .ret _ rfl ?_
    exact ⟨by unfold cmpI; rw [if_pos c16]; rfl, X8.trans X10⟩
  · refine .skip (.code (.seq (.seq (.keep [(0, _), (1, _)] ⟨rfl, rfl, trivial⟩ (.region ?_)))))
    refine .p rfl rfl (.mv rfl) ?_
    refine .p rfl rfl (.mv rfl) ?_
    refine .p rfl rfl (.gt rfl rfl) ?_
    refine .nil (.code (.keep [(19, _)] ⟨rfl, trivial⟩ ?_))
    refine .condD rfl (fun c19 => ?_) (fun c19 => ?_)
    · refine .seq (.keep [] trivial (.region ?_))
      refine .p rfl rfl (.as rfl) ?_
      refine .nil (.code ?_)
      refine .ret _ rfl ?_
      exact ⟨by unfold cmpI; rw [if_neg c16, if_pos c19]; rfl, X8.trans X10⟩
    · refine .skip (.code (.seq (.keep [] trivial (.region ?_))))
      refine .p rfl rfl (.as rfl) ?_
      refine .nil (.code ?_)
      refine .ret _ rfl ?_
      exact ⟨by unfold cmpI; rw [if_neg c16, if_neg c19]; rfl, X8.trans X10⟩
theorem cmpOr_fn {w : World} {v : Value} {a b : Int} (h : tInts.rep All w v [a, b]) : Fn Tryz.prog 107 [v] w (fun r w2 => r = i64 (orI a b) ∧ Ext (fun _ => False) w w2) := by
  obtain ⟨x, cap, rfl, hcap⟩ := Sl.val h
  refine Fn.enter (fun w => Tryz.call107 _ w) Tryz.func107 rfl ?_
  refine .seq (.region ?_)
  refine .p rfl rfl (.as rfl) ?_
  refine .nil (.code (.seq (.keep [(0, _)] ⟨rfl, trivial⟩ (.region ?_))))
  refine .p rfl rfl (.as rfl) ?_
  refine .nil (.code (.seq (.seq (.region ?_))))
  refine .p rfl rfl (.mv rfl) ?_
  refine .p rfl rfl (.len rfl rfl) ?_
  refine .p rfl rfl (.mv rfl) ?_
  refine .nil (.code (.block (.keep [(8, _), (7, _), (6, _), (3, _)] ⟨rfl, rfl, rfl, rfl, trivial⟩ ?_)))
  refine .loop (S := Nat) (fun s => [(3, i64 0), (6, .slice x 2 cap), (7, i64 ((2 : Nat) : Int)), (8, i64 s)]) (fun s => w) (fun s => s ≤ 2 ∧ (1 ≤ s → a = 0) ∧ (s = 2 → b = 0)) (fun s => 2 - s) 0 ⟨rfl, rfl, rfl, rfl, trivial⟩ rfl ⟨by omega, by omega, by omega⟩ ?_
  rintro i J ⟨hi, h1, h2⟩ again
  refine .seq (.region ?_)
  refine .p rfl rfl (.lt rfl rfl) ?_
  refine .nil (.code (.seq ?_))
  refine .condD rfl (fun c9 => ?_) (fun c9 => ?_)
  · have hi2 : i < [a, b].length := by show i < 2; have c9 : (i : Int) < ((2 : Nat) : Int) := c9; omega
    obtain ⟨b0, o, rfl, _, hc, _⟩ := Sl.intAt h (k := i) hi2
    refine .skip (.code (.seq (.block (.seq (.keep [(3, _), (6, _), (7, _), (8, _)] ⟨rfl, rfl, rfl, rfl, trivial⟩ (.region ?_))))))
    refine .p rfl rfl (.indexAddr1 rfl rfl rfl rfl (by show 0 ≤ (i : Int) ∧ (i : Int) < ((2 : Nat) : Int); omega)) ?_
    refine .p rfl rfl (.load rfl rfl rfl hc) ?_
    refine .p rfl rfl (.as rfl) ?_
    refine .nil (.code (.seq (.keep [(5, _), (3, _), (6, _), (7, _), (8, _)] ⟨rfl, rfl, rfl, rfl, rfl, trivial⟩ (.region ?_))))
    refine .p rfl rfl (.mv rfl) ?_
    refine .p rfl rfl (.mv rfl) ?_
    refine .p rfl rfl (.ne rfl rfl) ?_
    refine .nil (.code (.keep [(14, _), (5, _), (3, _), (6, _), (7, _), (8, _)] ⟨rfl, rfl, rfl, rfl, rfl, rfl, trivial⟩ ?_))
    refine .condD rfl (fun c14 => ?_) (fun c14 => ?_)
    · refine .seq (.keep [(5, _)] ⟨rfl, trivial⟩ (.region ?_))
      refine .p rfl rfl (.mv rfl) ?_
      refine .p rfl rfl (.as rfl) ?_
      refine .nil (.code ?_)
      refine .ret _ rfl ?_
      have hi2' : i < 2 := hi2
      have c14 : ¬ [a, b][i]'hi2 = 0 := c14
      refine ⟨?_, .refl _⟩
      rcases Nat.eq_zero_or_pos i with rfl | hp
      · show i64 a = _
        unfold orI
        rw [if_neg (show ¬ a = 0 from c14)]
      · obtain rfl : i = 1 := by omega
        show i64 b = _
        unfold orI
        rw [if_pos (h1 hp)]
    · refine .skip (.blk (.code (.keep [(3, _), (6, _), (7, _), (8, _)] ⟨rfl, rfl, rfl, rfl, trivial⟩ (.region ?_))))
      refine .p rfl rfl (.add rfl rfl (by omega)) ?_
      refine .p rfl rfl (.mv rfl) ?_
      refine .nil ?_
      have c14 : [a, b][i]'hi2 = 0 := Decidable.not_not.1 c14
      have hi2 : i < 2 := hi2
      refine (again (i + 1) ⟨by show i + 1 ≤ 2; omega, fun _ => ?_, fun hs => ?_⟩ (by show 2 - (i + 1) < 2 - i; omega)).of ⟨rfl, rfl, rfl, rfl, trivial⟩
      · rcases Nat.eq_zero_or_pos i with rfl | hp
        · exact c14
        · exact h1 hp
      · have hs : i + 1 = 2 := hs
        obtain rfl : i = 1 := by omega
        exact c14
  · refine .exit rfl (.code (.seq (.keep [(3, _)] ⟨rfl, trivial⟩ (.region ?_))))
    refine .p rfl rfl (.mv rfl) ?_
    refine .p rfl rfl (.as rfl) ?_
    refine .nil (.code ?_)
    refine .ret _ rfl ?_
    have c9 : ¬ (i : Int) < ((2 : Nat) : Int) := c9
    obtain rfl : i = 2 := by omega
    exact ⟨by unfold orI; rw [if_pos (h1 (by omega)), h2 rfl]; rfl, .refl _⟩
theorem Less_fn {w : World} {v u : Value} {a b : Entry} (ha : tEntry.rep All w v a) (hb : tEntry.rep All w u b) : Fn Tryz.prog 70 [v, u] w (fun r w2 => r = .bool (lessE a b) ∧ Ext (fun _ => False) w w2) := by
  obtain ⟨rfl, ha1, ha2, ha3⟩ := tEntry.val ha
  obtain ⟨rfl, hb1, hb2, hb3⟩ := tEntry.val hb
  refine Fn.enter (fun w => Tryz.call70 _ w) Tryz.func70 rfl ?_
  refine .seq (.region ?_)
  refine .v rfl rfl (.box rfl) ?_
  rintro _ w2 ⟨rfl, N2⟩
  refine .v rfl rfl (.box rfl) ?_
  rintro _ w3 ⟨rfl, N3⟩
  have B2 := N2.blk.ext N3.ext (fun x => x)
  have B3 := N3.blk
  have X3 := N2.ext.trans N3.ext
  refine .p rfl rfl (.as rfl) ?_
  refine .nil (.code (.seq (.keep [(3, _), (2, _)] ⟨rfl, rfl, trivial⟩ (.mix (fun _ => False) [4, 9, 10, 11] (by kernel_rfl) (by kernel_rfl) (by kernel_rfl) ?_))))
  refine .p rfl rfl rfl (fun wx hx => .fieldAddr rfl rfl rfl rfl) ?_
  refine .p rfl rfl rfl (fun wx hx => .load rfl rfl rfl ((B2.ext hx (fun x => x)).cell 0)) ?_
  refine .p rfl rfl rfl (fun wx hx => .fieldAddr rfl rfl rfl rfl) ?_
  refine .p rfl rfl rfl (fun wx hx => .load rfl rfl rfl ((B3.ext hx (fun x => x)).cell 0)) ?_
  refine .call (first := []) (captured := []) rfl rfl rfl rfl rfl (strCompare_fn (a := a.key) (b := b.key)) (by rintro _ _ ⟨_, hx⟩; exact hx) ?_
  rintro _ w9 ⟨rfl, X9⟩
  refine .p rfl rfl rfl (fun wx hx => .fieldAddr rfl rfl rfl rfl) ?_
  refine .p rfl rfl rfl (fun wx hx => .load rfl rfl rfl ((B3.ext hx (fun x => x)).cell 2)) ?_
  refine .p rfl rfl rfl (fun wx hx => .fieldAddr rfl rfl rfl rfl) ?_
  refine .p rfl rfl rfl (fun wx hx => .load rfl rfl rfl ((B2.ext hx (fun x => x)).cell 2)) ?_
  refine .call (first := []) (captured := []) rfl rfl rfl rfl rfl (cmpCompare_fn (a := b.seq) (b := a.seq)) (by rintro _ _ ⟨_, hx⟩; exact X9.trans hx) ?_
  rintro _ w14 ⟨rfl, X14⟩
  refine .v rfl rfl rfl (.lits rfl rfl (fun _ => by kernel_rfl)) (by rintro _ _ ⟨_, hN⟩; exact (X9.trans X14).trans hN.ext) ?_
  rintro _ w15 ⟨rfl, N15⟩
  refine .call (first := []) (captured := []) rfl rfl rfl rfl rfl (cmpOr_fn (a := Lib.compareBytes a.key b.key) (b := cmpI b.seq a.seq) (Sl.mk (us := [i64 _, i64 _]) (each_int (l := [_, _]) (by intro x hx; simp at hx; rcases hx with rfl | rfl; have := cmpB_range a.key b.key; omega; have := cmpI_range b.seq a.seq; omega)) (by have := N15.blk.cells; exact this) trivial N15.blk.lt (by simp) (by simp [Lim]) rfl)) (by rintro _ _ ⟨_, hx⟩; exact (X9.trans (X14.trans N15.ext)).trans hx) ?_
  rintro _ w16 ⟨rfl, X16⟩
  refine .p rfl rfl rfl (fun wx hx => .lt rfl rfl) ?_
  refine .p rfl rfl rfl (fun wx hx => .as rfl) ?_
  refine .nil (.code ?_)
  refine .ret _ rfl ?_
  exact ⟨rfl, X3.trans (X9.trans (X14.trans (N15.ext.trans X16)))⟩
theorem one_fn {w : World} {v : Value} {x : Entry} (h : tEntry.rep All w v x) : Fn Tryz.prog 152 [v] w (fun r w2 => r = i64 (oneE x) ∧ Ext (fun _ => False) w w2) := by
  obtain ⟨rfl, h1, h2, h3⟩ := tEntry.val h
  refine Fn.enter (fun w => Tryz.call152 _ w) Tryz.func152 rfl ?_
  refine .seq (.region ?_)
  refine .v rfl rfl (.box rfl) ?_
  rintro _ w1 ⟨rfl, N1⟩
  have B1 := N1.blk
  refine .p rfl rfl (.as rfl) ?_
  refine .nil (.code (.seq (.block (.seq (.keep [(1, _)] ⟨rfl, trivial⟩ (.region ?_))))))
  refine .p rfl rfl (.fieldAddr rfl rfl rfl rfl) ?_
  refine .p rfl rfl (.load rfl rfl rfl (B1.cell 0)) ?_
  refine .p rfl rfl (.eqS rfl rfl) ?_
  refine .p rfl rfl (.mv rfl) ?_
  refine .caseD 7 rfl (fun c7 => ?_) (fun c7 => ?_)
  · refine .skip rfl rfl ?_
    refine .skip rfl rfl ?_
    refine .skip rfl rfl ?_
    refine .skip rfl rfl ?_
    refine .p rfl rfl (.pickT rfl rfl) ?_
    refine .p rfl rfl (.as rfl) ?_
    refine .nil (.code (.keep [(3, _), (1, _)] ⟨rfl, rfl, trivial⟩ (.condT rfl (.seq (.keep [] trivial (.region ?_))))))
    refine .p rfl rfl (.as rfl) ?_
    refine .nil (.code ?_)
    refine .ret _ rfl ?_
    exact ⟨by unfold oneE; rw [if_pos (.inl c7)]; rfl, N1.ext⟩
  · refine .p rfl rfl (.fieldAddr rfl rfl rfl rfl) ?_
    refine .p rfl rfl (.load rfl rfl rfl (B1.cell 0)) ?_
    refine .p rfl rfl (.lenS rfl rfl) ?_
    refine .p rfl rfl (.gt rfl rfl) ?_
    refine .p rfl rfl (.pickF rfl rfl) ?_
    refine .p rfl rfl (.as rfl) ?_
    refine .nil (.code (.keep [(3, _), (1, _)] ⟨rfl, rfl, trivial⟩ ?_))
    refine .condD rfl (fun c3 => ?_) (fun c3 => ?_)
    · refine .seq (.keep [] trivial (.region ?_))
      refine .p rfl rfl (.as rfl) ?_
      refine .nil (.code ?_)
      refine .ret _ rfl ?_
      exact ⟨by unfold oneE; rw [if_pos (.inr (by omega))]; rfl, N1.ext⟩
    · refine .seq (.keep [(1, _)] ⟨rfl, trivial⟩ (.region ?_))
      refine .p rfl rfl (.fieldAddr rfl rfl rfl rfl) ?_
      refine .p rfl rfl (.load rfl rfl rfl (B1.cell 1)) ?_
      refine .p rfl rfl (.lenS rfl rfl) ?_
      refine .p rfl rfl (.gt rfl rfl) ?_
      refine .p rfl rfl (.as rfl) ?_
      refine .nil (.code (.keep [(13, _), (1, _)] ⟨rfl, rfl, trivial⟩ ?_))
      refine .condD rfl (fun c13 => ?_) (fun c13 => ?_)
      · refine .seq (.keep [] trivial (.region ?_))
        refine .p rfl rfl (.as rfl) ?_
        refine .nil (.code ?_)
        refine .ret _ rfl ?_
        exact ⟨by unfold oneE; rw [if_neg (fun h => h.elim c7 (by omega)), if_pos (by omega)]; rfl, N1.ext⟩
      · refine .seq (.keep [(1, _)] ⟨rfl, trivial⟩ (.region ?_))
        refine .p rfl rfl (.fieldAddr rfl rfl rfl rfl) ?_
        refine .p rfl rfl (.load rfl rfl rfl (B1.cell 2)) ?_
        refine .p rfl rfl (.lt rfl rfl) ?_
        refine .p rfl rfl (.mv rfl) ?_
        refine .caseD 22 rfl (fun c22 => ?_) (fun c22 => ?_)
        · refine .skip rfl rfl ?_
          refine .skip rfl rfl ?_
          refine .skip rfl rfl ?_
          refine .p rfl rfl (.pickT rfl rfl) ?_
          refine .p rfl rfl (.as rfl) ?_
          refine .nil (.code (.keep [(18, _), (1, _)] ⟨rfl, rfl, trivial⟩ (.condT rfl (.seq (.keep [] trivial (.region ?_))))))
          refine .p rfl rfl (.as rfl) ?_
          refine .nil (.code ?_)
          refine .ret _ rfl ?_
          exact ⟨by unfold oneE; rw [if_neg (fun h => h.elim c7 (by omega)), if_neg (by omega), if_pos (by omega)]; rfl, N1.ext⟩
        · refine .p rfl rfl (.fieldAddr rfl rfl rfl rfl) ?_
          refine .p rfl rfl (.load rfl rfl rfl (B1.cell 2)) ?_
          refine .p rfl rfl (.gt rfl rfl) ?_
          refine .p rfl rfl (.pickF rfl rfl) ?_
          refine .p rfl rfl (.as rfl) ?_
          refine .nil (.code (.keep [(18, _), (1, _)] ⟨rfl, rfl, trivial⟩ ?_))
          refine .condD rfl (fun c18 => ?_) (fun c18 => ?_)
          · refine .seq (.keep [] trivial (.region ?_))
            refine .p rfl rfl (.as rfl) ?_
            refine .nil (.code ?_)
            refine .ret _ rfl ?_
            exact ⟨by unfold oneE; rw [if_neg (fun h => h.elim c7 (by omega)), if_neg (by omega), if_pos (by omega)]; rfl, N1.ext⟩
          · refine .seq (.keep [(1, _)] ⟨rfl, trivial⟩ (.region ?_))
            refine .p rfl rfl (.fieldAddr rfl rfl rfl rfl) ?_
            refine .p rfl rfl (.load rfl rfl rfl (B1.cell 3)) ?_
            refine .p rfl rfl (.mv rfl) ?_
            refine .case 30 rfl (fun c30 => ?_) (fun c30 => ?_)
            · refine .p rfl rfl (.fieldAddr rfl rfl rfl rfl) ?_
              refine .p rfl rfl (.load rfl rfl rfl (B1.cell 1)) ?_
              refine .p rfl rfl (.neS rfl rfl) ?_
              refine .p rfl rfl (.pickT rfl rfl) ?_
              refine .p rfl rfl (.as rfl) ?_
              refine .nil (.code (.keep [(27, _)] ⟨rfl, trivial⟩ ?_))
              refine .condD rfl (fun c27 => ?_) (fun c27 => ?_)
              · refine .seq (.keep [] trivial (.region ?_))
                refine .p rfl rfl (.as rfl) ?_
                refine .nil (.code ?_)
                refine .ret _ rfl ?_
                exact ⟨by unfold oneE; rw [if_neg (fun h => h.elim c7 (by omega)), if_neg (by omega), if_neg (by omega), if_pos ⟨c30, c27⟩]; rfl, N1.ext⟩
              · refine .skip (.blk (.code (.seq (.keep [] trivial (.region ?_)))))
                refine .p rfl rfl (.as rfl) ?_
                refine .nil (.code ?_)
                refine .ret _ rfl ?_
                exact ⟨by unfold oneE; rw [if_neg (fun h => h.elim c7 (by omega)), if_neg (by omega), if_neg (by omega), if_neg (fun h => c27 h.2)]; rfl, N1.ext⟩
            · refine .skip rfl rfl ?_
              refine .skip rfl rfl ?_
              refine .skip rfl rfl ?_
              refine .p rfl rfl (.pickF rfl rfl) ?_
              refine .p rfl rfl (.as rfl) ?_
              refine .nil (.code (.keep [(27, _)] ⟨rfl, trivial⟩ (.condF rfl (.skip (.blk (.code (.seq (.keep [] trivial (.region ?_)))))))))
              refine .p rfl rfl (.as rfl) ?_
              refine .nil (.code ?_)
              refine .ret _ rfl ?_
              exact ⟨by unfold oneE; rw [if_neg (fun h => h.elim c7 (by omega)), if_neg (by omega), if_neg (by omega), if_neg (by simp [c30])]; rfl, N1.ext⟩
theorem pgCheck_fn {w : World} {v : Value} {l : List Entry} (h : (Sl tEntry).rep All w v l) : Fn Tryz.prog 101 [v] w (fun r w2 => r = i64 (checkE l) ∧ Ext (fun _ => False) w w2) := by
  obtain ⟨a, cap, rfl, hcap⟩ := Sl.val h
  have hlim := Sl.lim h
  simp only [Lim] at hlim
  refine Fn.enter (fun w => Tryz.call101 _ w) Tryz.func101 rfl ?_
  refine .seq (.region ?_)
  refine .p rfl rfl (.as rfl) ?_
  refine .nil (.code (.seq (.seq (.keep [(0, _)] ⟨rfl, trivial⟩ (.region ?_)))))
  refine .p rfl rfl (.mv rfl) ?_
  refine .p rfl rfl (.len rfl rfl) ?_
  refine .p rfl rfl (.gt rfl rfl) ?_
  refine .nil (.code (.keep [(8, _), (0, _)] ⟨rfl, rfl, trivial⟩ ?_))
  refine .condD rfl (fun c8 => ?_) (fun c8 => ?_)
  · refine .seq (.keep [] trivial (.region ?_))
    refine .p rfl rfl (.as rfl) ?_
    refine .nil (.code ?_)
    refine .ret _ rfl ?_
    exact ⟨by unfold checkE; rw [if_pos (by omega)]; rfl, .refl _⟩
  · refine .skip (.code (.seq (.seq (.keep [(0, _)] ⟨rfl, trivial⟩ (.region ?_)))))
    refine .p rfl rfl (.mv rfl) ?_
    refine .p rfl rfl (.len rfl rfl) ?_
    refine .p rfl rfl (.mv rfl) ?_
    refine .nil (.code (.block ?_))
    refine .loop (S := Nat × World) (fun s => [(0, .slice a l.length cap), (9, .slice a l.length cap), (10, i64 l.length), (11, i64 s.1)]) (fun s => s.2) (fun s => s.1 ≤ l.length ∧ Ext (fun _ => False) w s.2 ∧ chk none l = chk (aheadE l s.1) (l.drop s.1)) (fun s => l.length - s.1) (0, w) ⟨rfl, rfl, rfl, rfl, trivial⟩ rfl ⟨Nat.zero_le _, .refl _, rfl⟩ ?_
    rintro ⟨i, wi⟩ J ⟨hi', hX, hck⟩ again
    simp only at hi' hX hck
    change G _ [(0, .slice a l.length cap), (9, .slice a l.length cap), (10, i64 l.length), (11, i64 i)] _ _ wi
    refine .seq (.region ?_)
    refine .p rfl rfl (.lt rfl rfl) ?_
    refine .nil (.code (.seq ?_))
    refine .condD rfl (fun c12 => ?_) (fun c12 => ?_)
    · have hi : i < l.length := by omega
      obtain ⟨b0, o0, c0, ue, e, _, hcs, hre⟩ := Sl.at h (List.getElem?_eq_getElem hi)
      cases e
      obtain ⟨rfl, h1, h2, h3⟩ := tEntry.val hre
      have hstep := chk_step hi
      refine .skip (.code (.seq (.block (.seq (.keep [(0, _), (9, _), (10, _), (11, _)] ⟨rfl, rfl, rfl, rfl, trivial⟩ (.region ?_))))))
      refine .p rfl rfl (.mv rfl) ?_
      refine .p rfl rfl (.indexAddr (s := 4) rfl rfl rfl rfl (by omega)) ?_
      refine .p rfl rfl (.loadA (n := 4) rfl rfl rfl rfl rfl (hcs.ext hX (fun x => x))) ?_
      refine .v rfl rfl (.alloc rfl rfl) ?_
      rintro _ w4 ⟨rfl, N4⟩
      refine .p rfl rfl (.as rfl) ?_
      refine .s rfl (.storeAll (n := 4) rfl rfl rfl rfl rfl N4.blk rfl) ?_
      intro w5 P5
      have X5 := N4.ext.then P5.ext (by rintro k rfl _; exact Nat.le_refl _)
      refine .nil (.code (.seq (.seq (.keep [(3, _), (4, _), (0, _), (9, _), (10, _), (11, _)] ⟨rfl, rfl, rfl, rfl, rfl, rfl, trivial⟩ (.region ?_)))))
      refine .p rfl rfl (.loadA (n := 4) rfl rfl rfl rfl rfl P5.blk.cells) ?_
      refine .call (first := []) (captured := []) rfl rfl rfl rfl (one_fn (x := l[i]) (tEntry.mk h1 h2 h3)) ?_
      rintro _ w17 ⟨rfl, X17⟩
      refine .p rfl rfl (.as rfl) ?_
      refine .nil (.code (.seq (.keep [(5, _), (3, _), (4, _), (0, _), (9, _), (10, _), (11, _)] ⟨rfl, rfl, rfl, rfl, rfl, rfl, rfl, trivial⟩ (.region ?_))))
      refine .p rfl rfl (.mv rfl) ?_
      refine .p rfl rfl (.ne rfl rfl) ?_
      refine .nil (.code (.keep [(19, _), (5, _), (3, _), (4, _), (0, _), (9, _), (10, _), (11, _)] ⟨rfl, rfl, rfl, rfl, rfl, rfl, rfl, rfl, trivial⟩ ?_))
      refine .condD rfl (fun c19 => ?_) (fun c19 => ?_)
      · refine .seq (.keep [(5, _)] ⟨rfl, trivial⟩ (.region ?_))
        refine .p rfl rfl (.mv rfl) ?_
        refine .p rfl rfl (.as rfl) ?_
        refine .nil (.code ?_)
        refine .ret _ rfl ?_
        exact ⟨by unfold checkE; rw [if_neg (by omega), hck, hstep, if_pos c19]; rfl, hX.trans (X5.trans X17)⟩
      · refine .skip (.code (.seq (.keep [(3, _), (4, _), (0, _), (9, _), (10, _), (11, _)] ⟨rfl, rfl, rfl, rfl, rfl, rfl, trivial⟩ (.mix (fun _ => False) [9] (by kernel_rfl) (by kernel_rfl) (by kernel_rfl) ?_))))
        refine .p rfl rfl rfl (fun wx hx => .mv rfl) ?_
        refine .p rfl rfl rfl (fun wx hx => .gt rfl rfl) ?_
        refine .p rfl rfl rfl (fun wx hx => .mv rfl) ?_
        refine .caseD 23 rfl (fun c23 => ?_) (fun c23 => ?_)
        · obtain ⟨j, rfl⟩ : ∃ j, i = j + 1 := ⟨i - 1, by omega⟩
          obtain ⟨b9, o9, c9, ue9, e9, _, hcp, hrp⟩ := Sl.at h (List.getElem?_eq_getElem (show j < l.length by omega))
          cases e9
          obtain ⟨rfl, g1, g2, g3⟩ := tEntry.val hrp
          have e26 : (((j + 1 : Nat) : Int) - 1).toNat = j := by omega
          have hah : aheadE l (j + 1) = some l[j] := List.getElem?_eq_getElem (show j < l.length by omega)
          refine .p rfl rfl rfl (fun wx hx => .mv rfl) ?_
          refine .p rfl rfl rfl (fun wx hx => .mv rfl) ?_
          refine .p rfl rfl rfl (fun wx hx => .sub rfl rfl (by omega)) ?_
          refine .p rfl rfl rfl (fun wx hx => .cast (.indexAddr (s := 4) rfl rfl rfl rfl (by omega)) (show _ = Value.pointer (some ⟨b0, o0 + j * 4, none⟩) by rw [e26])) ?_
          refine .p rfl rfl rfl (fun wx hx => .loadA (n := 4) rfl rfl rfl rfl rfl ((hcp.ext (hX.trans (X5.trans X17)) (fun x => x)).ext hx (fun x => x))) ?_
          refine .p rfl rfl rfl (fun wx hx => .loadA (n := 4) rfl rfl rfl rfl rfl ((P5.blk.ext X17 (fun x => x)).ext hx (fun x => x)).cells) ?_
          refine .call (first := []) (captured := []) rfl rfl rfl rfl rfl (Less_fn (a := l[j]) (b := l[j + 1]) (tEntry.mk g1 g2 g3) (tEntry.mk h1 h2 h3)) (by rintro _ _ ⟨_, hx⟩; exact hx) ?_
          rintro _ w30 ⟨rfl, X30⟩
          refine .p rfl rfl rfl (fun wx hx => .not rfl) ?_
          refine .p rfl rfl rfl (fun wx hx => .pickT rfl rfl) ?_
          refine .nil (.code (.keep [(32, _), (0, _), (9, _), (10, _), (11, _)] ⟨rfl, rfl, rfl, rfl, rfl, trivial⟩ ?_))
          refine .cond rfl (fun c32 => ?_) (fun c32 => ?_)
          · refine .seq (.keep [] trivial (.region ?_))
            refine .p rfl rfl (.as rfl) ?_
            refine .nil (.code ?_)
            refine .ret _ rfl ?_
            exact ⟨by unfold checkE; rw [if_neg (by omega), hck, hstep, if_neg (by simp [Decidable.not_not.1 c19]), hah, if_pos (by simp [ahd]; simp_all)]; rfl, hX.trans (X5.trans (X17.trans X30))⟩
          · refine .skip (.blk (.code (.keep [(0, _), (9, _), (10, _), (11, _)] ⟨rfl, rfl, rfl, rfl, trivial⟩ (.region ?_))))
            refine .p rfl rfl (.add rfl rfl (by omega)) ?_
            refine .p rfl rfl (.mv rfl) ?_
            refine .nil ?_
            exact (again (j + 1 + 1, w30) ⟨by show j + 1 + 1 ≤ _; omega, hX.trans (X5.trans (X17.trans X30)), by show chk none l = chk (aheadE l (j + 1 + 1)) (l.drop (j + 1 + 1)); rw [hck, hstep, if_neg (by simp [Decidable.not_not.1 c19]), hah, if_neg (by simp [ahd]; simp_all)]⟩ (by show _ - (j + 1 + 1) < _ - (j + 1); omega)).of ⟨rfl, rfl, rfl, rfl, trivial⟩
        · obtain rfl : i = 0 := by omega
          refine .skip rfl rfl ?_
          refine .skip rfl rfl ?_
          refine .skip rfl rfl ?_
          refine .skip rfl rfl ?_
          refine .skip rfl rfl ?_
          refine .skip rfl rfl ?_
          refine .skip rfl rfl ?_
          refine .skip rfl rfl ?_
          refine .p rfl rfl rfl (fun wx hx => .pickF rfl rfl) ?_
          refine .nil (.code (.keep [(32, _), (0, _), (9, _), (10, _), (11, _)] ⟨rfl, rfl, rfl, rfl, rfl, trivial⟩ (.condF rfl (.skip (.blk (.code (.keep [(0, _), (9, _), (10, _), (11, _)] ⟨rfl, rfl, rfl, rfl, trivial⟩ (.region ?_))))))))
          refine .p rfl rfl (.add rfl rfl (by omega)) ?_
          refine .p rfl rfl (.mv rfl) ?_
          refine .nil ?_
          exact (again (0 + 1, w17) ⟨by show 0 + 1 ≤ _; omega, hX.trans (X5.trans X17), by show chk none l = chk (aheadE l (0 + 1)) (l.drop (0 + 1)); rw [hck, hstep, if_neg (by simp [Decidable.not_not.1 c19]), if_neg (by simp [aheadE, ahd])]⟩ (by show _ - (0 + 1) < _ - 0; omega)).of ⟨rfl, rfl, rfl, rfl, trivial⟩
    · obtain rfl : i = l.length := by omega
      refine .exit rfl (.code (.seq (.keep [] trivial (.region ?_))))
      refine .p rfl rfl (.as rfl) ?_
      refine .nil (.code ?_)
      refine .ret _ rfl ?_
      exact ⟨by unfold checkE; rw [if_neg (by omega), hck, List.drop_length, chk]; rfl, hX⟩
end Go.Proofs.YthliepcjfnjnoaaGreatDoor
namespace Go.Proofs.YthliepcjfnjnoaaGreatDoor
open Go
def byteOf (n i : Nat) : UInt8 := UInt8.ofNat (n / 2 ^ (8 * i))
def put8 (n : Nat) : Bs := (List.range 8).map (byteOf n)
def getTo (l : Bs) : Nat → Nat
  | 0 => 0
  | i + 1 => getTo l i + (l.getD i 0).toNat * 2 ^ (8 * i)
theorem put8_length (n : Nat) : (put8 n).length = 8 := by simp [put8]
theorem getTo_lt (l : Bs) : ∀ i, getTo l i < 2 ^ (8 * i)
  | 0 => by simp [getTo]
  | i + 1 => by
    have h := getTo_lt l i
    have hb := (l.getD i 0).toNat_lt
    have e : 2 ^ (8 * (i + 1)) = 256 * 2 ^ (8 * i) := by rw [show 8 * (i + 1) = 8 + 8 * i by omega, Nat.pow_add]
    rw [getTo, e]
    have h2 : (l.getD i 0).toNat * 2 ^ (8 * i) ≤ 255 * 2 ^ (8 * i) := Nat.mul_le_mul_right _ (by omega)
    omega
theorem getTo_or (l : Bs) (i : Nat) : getTo l i ||| (l.getD i 0).toNat * 2 ^ (8 * i) = getTo l (i + 1) := by
  have h := Nat.two_pow_add_eq_or_of_lt (getTo_lt l i) (l.getD i 0).toNat
  rw [Nat.or_comm, Nat.mul_comm, ← h, getTo, Nat.mul_comm, Nat.add_comm]
theorem getTo_bd (l : Bs) {i : Nat} (hi : i ≤ 8) : getTo l i < 18446744073709551616 :=
  Nat.lt_of_lt_of_le (getTo_lt l i) (Nat.pow_le_pow_right (n := 2) (by decide) (show 8 * i ≤ 64 by omega))
theorem getTo_term (l : Bs) {i : Nat} (hi : i < 8) : (l.getD i 0).toNat * 2 ^ (8 * i) < 18446744073709551616 := by
  have h1 := getTo_bd l (i := i + 1) (by omega)
  rw [getTo] at h1
  omega
theorem byteOf_eq (n : Nat) (i : Nat) : u8 (byteOf n i) = u8 (UInt8.ofNat ((n : Int) / 2 ^ (8 * i)).toNat) := by
  have : ((n : Int) / 2 ^ (8 * i)) = ((n / 2 ^ (8 * i) : Nat) : Int) := by simp
  rw [this]
  rfl
theorem fill_set8 {α : Type} (f : Nat → α) (z : α) (n i : Nat) (h : i < n) : ((List.range i).map f ++ List.replicate (n - i) z).set i (f i) = (List.range (i + 1)).map f ++ List.replicate (n - (i + 1)) z := by
  rw [List.set_append_right _ _ (by simp)]
  simp only [List.length_map, List.length_range, Nat.sub_self, List.range_succ, List.map_append, List.map_cons, List.map_nil, List.append_assoc]
  congr 1
  rw [show n - i = (n - (i + 1)) + 1 by omega, List.replicate_succ]
  simp
theorem Put_fn {w : World} {n : Nat} (hn : n < 18446744073709551616) : Fn Tryz.prog 79 [.int .u64 n] w (fun r w2 => tBytes.rep (fun k => w.heap.size ≤ k) w2 r (put8 n) ∧ Ext (fun _ => False) w w2) := by
  refine Fn.enter (fun w => Tryz.call79 _ w) Tryz.func79 rfl ?_
  refine .seq (.region ?_)
  refine .p rfl rfl (.as rfl) ?_
  refine .nil (.code (.seq (.keep [(0, _)] ⟨rfl, trivial⟩ (.region ?_))))
  refine .v rfl rfl (.alloc rfl rfl) ?_
  rintro _ w3 ⟨rfl, N3⟩
  refine .nil (.code (.seq (.seq (.region ?_))))
  refine .p rfl rfl (.mv rfl) ?_
  refine .nil (.code (.block ?_))
  refine .loop (S := Nat × World) (fun s => [(6, i64 s.1), (3, .pointer (some ⟨w.heap.size, 0, none⟩)), (0, .int .u64 n)]) (fun s => s.2) (fun s => s.1 ≤ 8 ∧ Blk s.2 w.heap.size 209 ((List.range s.1).map (fun i => u8 (byteOf n i)) ++ List.replicate (8 - s.1) (u8 0)) ∧ Ext (· = w.heap.size) w3 s.2) (fun s => 8 - s.1) (0, w3) ⟨rfl, rfl, rfl, trivial⟩ rfl ⟨Nat.zero_le _, N3.blk, .refl _⟩ ?_
  rintro ⟨i, wi⟩ J ⟨hi, hB, hX⟩ again
  simp only at hi hB hX
  change G _ [(6, i64 i), (3, .pointer (some ⟨w.heap.size, 0, none⟩)), (0, .int .u64 n)] _ _ wi
  refine .seq (.region ?_)
  refine .p rfl rfl (.lt rfl rfl) ?_
  refine .nil (.code (.seq ?_))
  refine .condD rfl (fun c7 => ?_) (fun c7 => ?_)
  · refine .skip (.code (.seq (.block (.seq (.keep [(6, _), (3, _), (0, _)] ⟨rfl, rfl, rfl, trivial⟩ (.region ?_))))))
    refine .p rfl rfl (.mv rfl) ?_
    refine .p rfl rfl (.as rfl) ?_
    refine .nil (.code (.keep [(4, _), (6, _), (3, _), (0, _)] ⟨rfl, rfl, rfl, rfl, trivial⟩ (.region ?_)))
    refine .p rfl rfl (.mv rfl) ?_
    refine .p rfl rfl (.mv rfl) ?_
    refine .p rfl rfl (.mv rfl) ?_
    refine .p rfl rfl (.mul rfl rfl (by omega)) ?_
    refine .p rfl rfl (.shrN (8 * i) rfl rfl (by show 8 * i ≤ 64; omega)) ?_
    refine .p rfl rfl (.convB rfl rfl rfl (Int.ediv_nonneg (by omega) (Int.pow_nonneg (by omega)))) ?_
    refine .p rfl rfl (.indexAddrA0 rfl rfl rfl rfl (by omega)) ?_
    refine .s rfl (.store rfl rfl rfl rfl rfl hB (by simp; omega)) ?_
    intro w16 P16
    have hB' := P16.blk
    have f := fill_set8 (fun i => u8 (byteOf n i)) (u8 0) 8 i (by omega)
    refine .nil (.blk (.code (.keep [(6, _), (3, _), (0, _)] ⟨rfl, rfl, rfl, trivial⟩ (.region ?_))))
    refine .p rfl rfl (.add rfl rfl (by omega)) ?_
    refine .p rfl rfl (.mv rfl) ?_
    refine .nil ?_
    refine (again (i + 1, w16) ⟨by show i + 1 ≤ 8; omega, ?_, hX.trans P16.ext⟩ (by show 8 - (i + 1) < 8 - i; omega)).of ⟨rfl, rfl, rfl, trivial⟩
    show Blk w16 _ _ _
    rw [← f, byteOf_eq]
    exact hB'
  · obtain rfl : i = 8 := by omega
    have hB8 : Blk wi w.heap.size 209 ((put8 n).map u8) := by
      have : (List.range 8).map (fun i => u8 (byteOf n i)) ++ List.replicate (8 - 8) (u8 0) = (put8 n).map u8 := by simp [put8]
      rw [← this]
      exact hB
    refine .exit rfl (.code (.seq (.keep [(3, _)] ⟨rfl, trivial⟩ (.region ?_))))
    refine .p rfl rfl (.loadA (n := 8) rfl rfl rfl rfl rfl hB8.cells) ?_
    refine .v rfl rfl (.alloc rfl rfl) ?_
    rintro _ w5 ⟨rfl, N5⟩
    refine .s rfl (.storeAll (n := 8) rfl rfl rfl rfl (by simp [Value.oneCell']) N5.blk rfl) ?_
    intro w18 P18
    refine .nil (.code (.seq (.keep [(5, _)] ⟨rfl, trivial⟩ (.region ?_))))
    refine .p rfl rfl (.cutA rfl rfl rfl) ?_
    refine .p rfl rfl (.as rfl) ?_
    refine .nil (.code ?_)
    refine .ret _ rfl ?_
    have hX18 := (N3.ext.then hX (by rintro k rfl _; omega)).trans N5.ext
    have hz := hX.size
    have hz3 := N3.size
    exact ⟨Sl.mkBytesB P18.blk (by rw [List.take_of_length_le (by simp)]) (by show w.heap.size ≤ wi.heap.size; omega) (by simp [put8]) (by simp [put8, Lim]) (by simp [put8]), hX18.then P18.ext (by rintro k rfl _; show w.heap.size ≤ wi.heap.size; omega)⟩
end Go.Proofs.YthliepcjfnjnoaaGreatDoor
namespace Go.Proofs.YthliepcjfnjnoaaGreatDoor
open Go page
namespace page
theorem check_ok {l : List Entry} (h : checkE l = 0) : l.length ≤ 4096 ∧ ∀ x ∈ l, oneE x = 0 := by
  unfold checkE at h
  split at h
  · cases h
  · exact ⟨by omega, chk_ok h⟩
end page
end Go.Proofs.YthliepcjfnjnoaaGreatDoor
namespace Go.Proofs.YthliepcjfnjnoaaGreatDoor
open Go page
namespace page
theorem cmpB_zero : ∀ a b : Bs, Lib.compareBytes a b = 0 ↔ a = b
  | [], [] => by simp [Lib.compareBytes]
  | [], _ :: _ => by simp [Lib.compareBytes]
  | _ :: _, [] => by simp [Lib.compareBytes]
  | a :: x, b :: y => by
    unfold Lib.compareBytes
    have ih := cmpB_zero x y
    split
    · rename_i h
      refine ⟨fun e => (by cases e), fun e => ?_⟩
      cases e
      exact absurd h (UInt8.lt_irrefl a)
    · rename_i h1
      split
      · rename_i h
        refine ⟨fun e => (by cases e), fun e => ?_⟩
        cases e
        exact absurd h (UInt8.lt_irrefl a)
      · rename_i h2
        have e : a = b := UInt8.le_antisymm (UInt8.not_lt.1 h2) (UInt8.not_lt.1 h1)
        subst e
        rw [ih]
        simp
theorem cmpB_neg : ∀ a b : Bs, Lib.compareBytes b a = - Lib.compareBytes a b
  | [], [] => by simp [Lib.compareBytes]
  | [], _ :: _ => by simp [Lib.compareBytes]
  | _ :: _, [] => by simp [Lib.compareBytes]
  | a :: x, b :: y => by
    unfold Lib.compareBytes
    have ih := cmpB_neg x y
    by_cases h1 : a < b
    · have h2 : ¬ b < a := UInt8.lt_asymm h1
      rw [if_neg h2, if_pos h1, if_pos h1]
      rfl
    · by_cases h2 : b < a
      · rw [if_pos h2, if_neg h1, if_pos h2]
      · rw [if_neg h2, if_neg h1, if_neg h1, if_neg h2]
        exact ih
theorem cmpB_trans : ∀ a b c : Bs, Lib.compareBytes a b < 0 → Lib.compareBytes b c < 0 → Lib.compareBytes a c < 0
  | [], [], _, h, _ => by simp [Lib.compareBytes] at h
  | [], _ :: _, [], _, h => by simp [Lib.compareBytes] at h
  | [], _ :: _, _ :: _, _, _ => by simp [Lib.compareBytes]
  | _ :: _, [], _, h, _ => by simp [Lib.compareBytes] at h
  | _ :: _, _ :: _, [], _, h => by simp [Lib.compareBytes] at h
  | a :: x, b :: y, c :: z, h1, h2 => by
    unfold Lib.compareBytes at h1 h2 ⊢
    have ih := cmpB_trans x y z
    by_cases p1 : a < b
    · by_cases q1 : b < c
      · rw [if_pos (UInt8.lt_trans p1 q1)]; decide
      · rw [if_neg q1] at h2
        by_cases q2 : c < b
        · rw [if_pos q2] at h2; omega
        · have e : b = c := UInt8.le_antisymm (UInt8.not_lt.1 q2) (UInt8.not_lt.1 q1)
          subst e
          rw [if_pos p1]; decide
    · rw [if_neg p1] at h1
      by_cases p2 : b < a
      · rw [if_pos p2] at h1; omega
      · rw [if_neg p2] at h1
        have e : a = b := UInt8.le_antisymm (UInt8.not_lt.1 p2) (UInt8.not_lt.1 p1)
        subst e
        by_cases q1 : a < c
        · rw [if_pos q1]; decide
        · rw [if_neg q1] at h2
          by_cases q2 : c < a
          · rw [if_pos q2] at h2; omega
          · rw [if_neg q2] at h2
            rw [if_neg q1, if_neg q2]
            exact ih h1 h2
theorem less_iff (a b : Entry) : lessE a b = true ↔ Lib.compareBytes a.key b.key < 0 ∨ (a.key = b.key ∧ b.seq < a.seq) := by
  unfold lessE orI cmpI
  rw [decide_eq_true_eq]
  have h0 := cmpB_zero a.key b.key
  by_cases h : Lib.compareBytes a.key b.key = 0
  · rw [if_pos h]
    have hk := h0.1 h
    constructor
    · intro h2
      refine .inr ⟨hk, ?_⟩
      split at h2
      · assumption
      · split at h2 <;> omega
    · rintro (h2 | ⟨_, h2⟩)
      · omega
      · rw [if_pos h2]; decide
  · rw [if_neg h]
    constructor
    · exact .inl
    · rintro (h2 | ⟨h2, _⟩)
      · exact h2
      · exact absurd (h0.2 h2) h
theorem less_trans {a b c : Entry} (h1 : lessE a b = true) (h2 : lessE b c = true) : lessE a c = true := by
  rw [less_iff] at *
  rcases h1 with h1 | ⟨e1, h1⟩ <;> rcases h2 with h2 | ⟨e2, h2⟩
  · exact .inl (cmpB_trans _ _ _ h1 h2)
  · rw [← e2]; exact .inl h1
  · rw [e1]; exact .inl h2
  · exact .inr ⟨e1.trans e2, by omega⟩
theorem less_asymm {a b : Entry} (h1 : lessE a b = true) : lessE b a = false := by
  cases h : lessE b a with
  | false => rfl
  | true =>
    rw [less_iff] at h1 h
    have hn := cmpB_neg a.key b.key
    have hz := cmpB_zero a.key b.key
    rcases h1 with h1 | ⟨e1, h1⟩ <;> rcases h with h | ⟨e2, h⟩
    · omega
    · have := hz.2 e2.symm; omega
    · have := hz.2 e1; omega
    · omega
theorem alike_eq (a b : Entry) : decide (a.key = b.key ∧ a.seq = b.seq) = (!lessE a b && !lessE b a) := by
  have h1 := less_iff a b
  have h2 := less_iff b a
  have hn := cmpB_neg a.key b.key
  have hz := cmpB_zero a.key b.key
  by_cases h : a.key = b.key ∧ a.seq = b.seq
  · rw [decide_eq_true h]
    have e1 : lessE a b = false := by
      cases e : lessE a b with
      | false => rfl
      | true => rcases h1.1 e with h3 | ⟨_, h3⟩; have := hz.2 h.1; omega; omega
    have e2 : lessE b a = false := by
      cases e : lessE b a with
      | false => rfl
      | true => rcases h2.1 e with h3 | ⟨_, h3⟩; have := hz.2 h.1; omega; omega
    rw [e1, e2]
    rfl
  · rw [decide_eq_false h]
    by_cases hk : a.key = b.key
    · have hs : ¬ a.seq = b.seq := fun e => h ⟨hk, e⟩
      rcases Int.lt_or_gt_of_ne hs with h3 | h3
      · rw [h2.2 (.inr ⟨hk.symm, h3⟩)]; simp
      · rw [h1.2 (.inr ⟨hk, h3⟩)]; simp
    · have h0 : ¬ Lib.compareBytes a.key b.key = 0 := fun e => hk (hz.1 e)
      rcases Int.lt_or_gt_of_ne h0 with h3 | h3
      · rw [h1.2 (.inl h3)]; simp
      · rw [h2.2 (.inl (by omega))]; simp
end page
end Go.Proofs.YthliepcjfnjnoaaGreatDoor
