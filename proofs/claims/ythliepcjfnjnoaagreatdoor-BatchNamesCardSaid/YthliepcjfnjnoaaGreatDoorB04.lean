import Derived.Test.YthliepcjfnjnoaaGreatDoorB03
import Derived.Laws.IdiomCopy
import Derived.ProofKit
import Derived.OpenShut
import Derived.SizedLaws
import Derived.Deep.CondSized
import Derived.Defers
import Derived.RangeFuncRecord
import Derived.RangeFuncSeq
import Derived.RangeFuncCalls
import Derived.TacticsIn
import Derived.Test.YthliepcjfnjnoaaGreatDoorProg
import Derived.WalkKit
import Derived.LaidEql
import Derived.Stop.Asserts
import Derived.RowKitTokens
set_option linter.unusedVariables false
set_option linter.unusedSimpArgs false
set_option maxRecDepth 20000
namespace Go.Proofs.YthliepcjfnjnoaaGreatDoor
open Go
section
variable {P : Program} {e : Env} {w : World} {x y z : Operand} {T T' E : TypeId} {v u : Value} {k : IntKind} {a b : Int}
theorem Ev.min2 {Ts : Array TypeId} (hx : look e x = some (.int k a)) (hy : look e y = some (.int k b)) : Ev P e (.call { callee := .builtin .min, args := #[x, y], argTypes := Ts }) w (.int k (min a b)) :=
  fun w' _ ρ hρ o ho => by
    have h : (if b < a then b else a) = min a b := by split <;> omega
    simp [execOp, ho, resolve, invoke, builtin, hρ _ _ hx, hρ _ _ hy, Builtin.min_, Builtin.min2, h]
theorem Ev.max2 {Ts : Array TypeId} (hx : look e x = some (.int k a)) (hy : look e y = some (.int k b)) : Ev P e (.call { callee := .builtin .max, args := #[x, y], argTypes := Ts }) w (.int k (max a b)) :=
  fun w' _ ρ hρ o ho => by
    have h : (if a < b then b else a) = max a b := by split <;> omega
    simp [execOp, ho, resolve, invoke, builtin, hρ _ _ hx, hρ _ _ hy, Builtin.max_, Builtin.max2, h]
theorem Ev.cutA {c n s : Nat} {o : Nat} (hx : look e x = some (.pointer (some ⟨c, o, none⟩))) (hT : P.underlying T = some (.array n E)) (hs : sizeIs P E s) : Ev P e (.slice T x none none none) w (.slice (some ⟨c, o, none⟩) n n) :=
  fun w' hw ρ hρ op ho => by
    simp [execOp, ho, hρ _ _ hx, Instr.sliceAt, run_underlying hT, Instr.sureAddr, Instr.sliceBounds, hs.run, add_none]
theorem Ev.arrPtr {c : Option Addr} {n m cap : Nat} (hx : look e x = some (.slice c n cap)) (hT : P.underlying T = some (.array m E)) (h : m ≤ n) : Ev P e (.sliceToArrayPointer T x) w (.pointer c) :=
  fun w' hw ρ hρ op ho => by
    have h' : ¬ n < m := by omega
    simp [execOp, ho, hρ _ _ hx, Instr.arrayAt, run_underlying hT, h']
theorem Ev.idxA {cs : List Value} {n : Nat} {i : Int} {d : TypeDesc} (hx : look e x = some (.agg cs.toArray)) (hy : look e y = some (.int k i)) (hT : P.underlying T = some (.array n E)) (hE : P.underlying E = some d) (hd : aggD d = false) (hs : sizeIs P E 1) (hi : 0 ≤ i ∧ i < n) (hv : cs[i.toNat]? = some v) : Ev P e (.index T x y) w v :=
  fun w' hw ρ hρ op ho => by
    simp [execOp, ho, hρ _ _ hx, hρ _ _ hy, Instr.index, asIntOf, run_underlying hT, hi.1, hi.2, hs.run, part, isAgg_run hE, hd, hv]
theorem Ev.shrN (n : Nat) {k' : IntKind} (hx : look e x = some (.int k a)) (hy : look e y = some (.int k' (n : Int))) (hn : n ≤ k.bits) : Ev P e (.binOp .shr T x y T') w (.int k (a / 2 ^ n)) := .shrC n (2 ^ n) hx hy hn rfl
theorem Ev.shlK (n : Nat) {k' : IntKind} (hx : look e x = some (.int k a)) (hy : look e y = some (.int k' (n : Int))) (hn : n ≤ k.bits) (hr : k.wrap (a * 2 ^ n) = a * 2 ^ n) : Ev P e (.binOp .shl T x y T') w (.int k (a * 2 ^ n)) :=
  fun w' _ ρ hρ o ho => by
    have h1 : ¬ ((n : Int) < 0) := by omega
    have h5 : Op.shift .shl k a k' (n : Int) = Sem.pure (.int k (a * 2 ^ n)) := by
      unfold Op.shift
      rw [if_neg h1]
      simp only [Int.toNat_natCast, Nat.min_eq_left hn, hr]
      rfl
    simp [execOp, ho, hρ _ _ hx, hρ _ _ hy, eqGuard, binOp, h5]
theorem Ev.shlU (n : Nat) {k' : IntKind} (hx : look e x = some (.int .u64 a)) (hy : look e y = some (.int k' (n : Int))) (hn : n ≤ 64) (hr : 0 ≤ a * 2 ^ n ∧ a * 2 ^ n ≤ 18446744073709551615) : Ev P e (.binOp .shl T x y T') w (.int .u64 (a * 2 ^ n)) := .shlK n hx hy hn (IntWalk.u64_in _ hr)
theorem Ev.orU {p q : Nat} (hx : look e x = some (.int .u64 p)) (hy : look e y = some (.int .u64 q)) (hp : p < 18446744073709551616) (hq : q < 18446744073709551616) : Ev P e (.binOp .or T x y T') w (.int .u64 ((p ||| q : Nat) : Int)) :=
  fun w' _ ρ hρ o ho => by
    have h1 : Op.intBits .or .u64 (p : Int) (q : Int) = Sem.pure (.int .u64 ((p ||| q : Nat) : Int)) := by
      show Sem.pure (Value.int .u64 (IntKind.u64.wrap ((BitVec.ofInt 64 (p : Int) ||| BitVec.ofInt 64 (q : Int)).toNat))) = _
      have h2 : (BitVec.ofInt 64 (p : Int) ||| BitVec.ofInt 64 (q : Int)).toNat = p ||| q := by
        rw [BitVec.ofInt_natCast, BitVec.ofInt_natCast, BitVec.toNat_or, BitVec.toNat_ofNat, BitVec.toNat_ofNat, Nat.mod_eq_of_lt (by omega), Nat.mod_eq_of_lt (by omega)]
      have h3 : p ||| q < 2 ^ 64 := Nat.or_lt_two_pow (by omega) (by omega)
      rw [h2, IntWalk.u64_in _ (by omega)]
    simp [execOp, ho, hρ _ _ hx, hρ _ _ hy, eqGuard, binOp, h1]
theorem Ev.convB {d : TypeDesc} (hT : P.underlying T' = some (.int .u8)) (hS : P.underlying T = some d) (hx : look e x = some (.int k a)) (ha : 0 ≤ a) : Ev P e (.convert T T' x) w (u8 (UInt8.ofNat a.toNat)) :=
  (Ev.conv hT hS hx).cast (by rw [IntKind.wrap_u8]; simp; omega)
theorem Ev.convW {d : TypeDesc} (hT : P.underlying T' = some (.int .u32)) (hS : P.underlying T = some d) (hx : look e x = some (.int k a)) (ha : 0 ≤ a) : Ev P e (.convert T T' x) w (u32 (UInt32.ofNat a.toNat)) :=
  (Ev.conv hT hS hx).cast (by rw [IntKind.wrap_u32]; simp; omega)
theorem Ev.conv8_i {d : TypeDesc} {c : UInt8} (hT : P.underlying T' = some (.int .i64)) (hS : P.underlying T = some d) (hx : look e x = some (u8 c)) : Ev P e (.convert T T' x) w (i64 c.toNat) :=
  .convI hT hS hx (by have := c.toNat_lt; omega)
theorem Ev.conv8_U {d : TypeDesc} {c : UInt8} (hT : P.underlying T' = some (.int .u64)) (hS : P.underlying T = some d) (hx : look e x = some (u8 c)) : Ev P e (.convert T T' x) w (.int .u64 c.toNat) :=
  .convU hT hS hx (by have := c.toNat_lt; omega)
theorem Ev.conv32_U {d : TypeDesc} {c : UInt32} (hT : P.underlying T' = some (.int .u64)) (hS : P.underlying T = some d) (hx : look e x = some (u32 c)) : Ev P e (.convert T T' x) w (.int .u64 c.toNat) :=
  .convU hT hS hx (by have := c.toNat_lt; omega)
theorem DoV.makeCap {l n : Int} {k k' : IntKind} {ti : TypeInfo} {z0 : Value} {n1 n2 : Operand} (h1 : look e n1 = some (.int k l)) (h2 : look e n2 = some (.int k' n)) (hT : P.underlying T = some (.slice E)) (hE : P.info? E = some ti) (hz : ti.zero = some z0) (hs : ti.size = 1) (hc : z0.cells = #[z0]) {eb : Nat} (hby : ti.bytes = eb)
    (hn : 0 ≤ l ∧ l ≤ n ∧ (eb : Int) * n ≤ 281474976710656 ∧ n ≤ 9223372036854775807) :
    DoV P e (.makeSlice T n1 n2) w (fun v w2 => v = .slice (some ⟨w.heap.size, 0, none⟩) l.toNat n.toNat ∧ New w w2 E (List.replicate n.toNat z0)) := by
  intro w' hw ρ hρ o ho
  subst hby
  have hr := run_make (P := P) w' T E ti z0 hT hE hz k k' l n hn.1 hn.2.1 hn.2.2.1 hn.2.2.2
  refine ⟨.slice (some ⟨w.heap.size, 0, none⟩) l.toNat n.toNat, w.alloc (.cells (List.replicate n.toNat z0).toArray E), w'.alloc (.cells (List.replicate n.toNat z0).toArray E), ?_, hw.alloc _, rfl, New.alloc _ _ _⟩
  have h3 : madeCells z0.cells (n.toNat * ti.size) = (List.replicate n.toNat z0).toArray := by
    apply Array.ext'
    rw [hc, hs, Nat.mul_one, toList_madeCells_one]
  rw [h3] at hr
  simp only [execOp, ho, hρ _ _ h1, hρ _ _ h2, Sem.run_bind, hr, Result.andThen_ok, hw.heap]
  rfl
theorem Own.ofMake {α : Type} {t : Ty α} {Q : Nat → Prop} {w2 : World} {n : Nat} {z0 : Value} (N : New w w2 E (List.replicate n z0)) (h1 : t.size = 1) : Own t Q E w2 (.slice (some ⟨w.heap.size, 0, none⟩) 0 n) [] w.heap.size :=
  ⟨by show 0 < Lim; decide, .inr ⟨n, [], List.replicate n z0, rfl, Nat.zero_le _, .nil, N.blk, by simp [flat, h1]⟩⟩
theorem run_copy_call {ρ : Operand → Value} {ats : Array TypeId} {w w' : World} {o : Oper} (ho : o.op = .call { callee := .builtin .copy, args := #[x, y], argTypes := ats }) {r : Value} (h : (Builtin.copy_ ats o.type #[ρ x, ρ y]).run P w = .ok r w') :
    (execOp ρ o).run P w = .ok (.value r) w' := by
  simp [execOp, ho, resolve, invoke, builtin, h]
theorem DoV.copyB {Q : Nat → Prop} {l : Bs} {c o dn dc : Nat} {cs : List Value} {T' : TypeId} (hx : look e x = some (.slice (some ⟨c, o, none⟩) dn dc)) (hB : Blk w c E cs) (hy : look e y = some u) (hu : tBytes.rep Q w u l) (hT : P.underlying T = some (.slice E)) (hs : sizeIs P E 1) (hfit : o + min l.length dn ≤ cs.length) :
    DoV P e (.call { callee := .builtin .copy, args := #[x, y], argTypes := #[T, T'] }) w (fun r w2 => r = i64 (min l.length dn : Nat) ∧ Put w w2 c E (cs.take o ++ (l.take (min l.length dn)).map u8 ++ cs.drop (o + min l.length dn))) := by
  intro w' hw ρ hρ op ho
  obtain ⟨hl, au, cap, rfl, hc, h⟩ := Sl.bytes hu
  have hB' : Blk w' c E cs := hB.keep (by rw [hw.heap])
  have hlen : ((l.take (min l.length dn)).map u8).length = min l.length dn := by simp
  have key : ∃ w2 w3, (execOp ρ op).run P w' = .ok (.value (i64 (min l.length dn : Nat))) w3 ∧ Same w2 w3 ∧ w2 = putCells w c o ((l.take (min l.length dn)).map u8) := by
    rcases h with ⟨rfl, rfl⟩ | ⟨b0, o0, rfl, hb, hlt, hcs⟩
    · refine ⟨w, w', run_copy_call ho ?_, hw, by simp [putCells]⟩
      rw [hρ _ _ hx, hρ _ _ hy]
      have := run_copy_none (P := P) w' T T' op.type E (some ⟨c, o, none⟩) au dn dc 0 0 hT hs (Nat.zero_min dn)
      simpa [goInt] using this
    · refine ⟨putCells w c o ((l.take (min l.length dn)).map u8), putCells w' c o ((l.take (min l.length dn)).map u8), run_copy_call ho ?_, hw.putCells c _ _, rfl⟩
      rw [hρ _ _ hx, hρ _ _ hy]
      have := run_copy_cells (P := P) w' T T' op.type E c o dn dc ⟨b0, o0, none⟩ l.length cap ((l.take (min l.length dn)).map u8) hT hs hlen
        (fun j v hj => by
          rw [add_none, hw.cell]
          refine hcs j v ?_
          rw [List.map_take, List.getElem?_take] at hj
          split at hj
          · exact hj
          · cases hj)
        (fun j hj => by rw [hB'.cell, List.getElem?_eq_getElem (by omega)]; rfl) (fun j hj => hB'.thawed _ (by omega)) (by intro v hv; obtain ⟨q, _, rfl⟩ := List.mem_map.1 hv; rfl)
      rw [hlen, ← putCells_setCells] at this
      exact this
  obtain ⟨w2, w3, hr, hs3, rfl⟩ := key
  have hb2 := hB.put ((l.take (min l.length dn)).map u8) o
  rw [splice_eq _ _ _ (by rw [hlen]; exact hfit), hlen] at hb2
  exact ⟨_, _, _, hr, hs3, rfl, hb2, putCells_ext _ _ _ _, putCells_size _ _ _ _⟩
theorem DoV.copyS {l : Bs} {c o dn dc : Nat} {cs : List Value} {T' : TypeId} (hx : look e x = some (.slice (some ⟨c, o, none⟩) dn dc)) (hB : Blk w c E cs) (hy : look e y = some (str l)) (hT : P.underlying T = some (.slice E)) (hs : sizeIs P E 1) (hdn : l.length ≤ dn) (hfit : o + l.length ≤ cs.length) :
    DoV P e (.call { callee := .builtin .copy, args := #[x, y], argTypes := #[T, T'] }) w (fun r w2 => r = i64 l.length ∧ Put w w2 c E (cs.take o ++ l.map u8 ++ cs.drop (o + l.length))) := by
  intro w' hw ρ hρ op ho
  have hB' : Blk w' c E cs := hB.keep (by rw [hw.heap])
  have hmap : (bs l).data.toList.map (fun x => Value.int .u8 (x.toNat : Int)) = l.map u8 := by simp [bs]
  have hlen : (l.map u8).length = l.length := by simp
  have hst := run_storeCells_cells (P := P) c o (l.map u8) 0 w' (fun j hj => by rw [Nat.add_zero, hB'.cell, List.getElem?_eq_getElem (by omega)]; rfl) (fun j hj => by rw [Nat.add_zero]; exact hB'.thawed _ (by omega)) (by simp [Value.oneCell'])
  have hmin : Nat.min (bs l).size dn = l.length := by rw [bs_size]; exact Nat.min_eq_left hdn
  refine ⟨i64 l.length, putCells w c o (l.map u8), putCells w' c o (l.map u8), run_copy_call ho ?_, hw.putCells c _ _, rfl, ?_⟩
  · rw [hρ _ _ hx, hρ _ _ hy]
    simp [Builtin.copy_, run_underlying hT, Builtin.lenOf, Builtin.firstCells, hs.run, hmin]
    rw [hmap, List.take_of_length_le (by simp), hst, putCells_setCells]
    rfl
  · have hb2 := hB.put (l.map u8) o
    rw [splice_eq _ _ _ (by rw [hlen]; exact hfit), hlen] at hb2
    exact ⟨hb2, putCells_ext _ _ _ _, putCells_size _ _ _ _⟩
end
end Go.Proofs.YthliepcjfnjnoaaGreatDoor
namespace Go.Proofs.YthliepcjfnjnoaaGreatDoor
open Go Go.ChangeShapes Go.WideShapes Go.ChangeAt Go.RowKit
section
variable {P : Program} {T E : TypeId}
end
theorem trodAll_stays {H : Type} {enc : TypeId × Value → H} {P : Program} (hl : laidOutB P = true) {W W' : World} (hb : Below W.heap.size W W') (sp : Nat → Bool) : ∀ (ts : List TypeId) (vs : List Value) (ds : List (DataW H)) (ps : List MemPlace), (∀ t ∈ ts, P.readableRec t = true ∧ t < P.types.size) →
    DataW.TrodAll enc P W 0 (fun _ => true) true ts vs ds ps → (∀ x ∈ ps, x.block < W.heap.size) → (∀ x ∈ ps, sp x.block = true) → DataW.TrodAll enc P W' 0 sp true ts vs ds ps
  | [], _, _, _, _, h, _, _ => by obtain ⟨rfl, rfl, rfl⟩ := trodAll_nil h; rfl
  | t :: ts, _, _, _, hr, h, hlt, hsp => by
    obtain ⟨v, vs, d, ds, p, q, rfl, rfl, rfl, h0, h1⟩ := trodAll_cons h
    refine trodAll_cons_mk ?_ (trodAll_stays hl hb sp ts vs ds q (fun x hx => hr x (by simp [hx])) h1 (fun x hx => hlt x (by simp [hx])) (fun x hx => hsp x (by simp [hx])))
    exact WideElems.Trod_stays hl (hr t (by simp)).1 (hr t (by simp)).2 h0 (fun x hx => hb.same (hlt x (by simp [hx]))) (fun x hx => hsp x (by simp [hx]))
theorem post_true {H : Type} {enc : TypeId × Value → H} {P : Program} {f : Func} {s : ChangeSpec} {W W' : World} {args : Array Value} {ds gs : List (DataW H)} {before : List MemPlace} {B : TypeId}
    (hl : laidOutB P = true) (hr : ∀ t ∈ f.params.toList, P.readableRec t = true ∧ t < P.types.size) (hvs : s.vars = []) (hres : f.resultTypes = #[B]) (hB : P.underlying B = some .bool)
    (hfn : s.fn H ds = { results := [.lit (.bool true)], args := ds })
    (hW : DataW.Whole enc P f.params.toList s.vars false W args.toList ds gs before) (hb : Below W.heap.size W W') :
    s.post enc P f false true false false W args (.bool true) W' := by
  have hW' := hW
  have hlt := hW.lt
  obtain ⟨p, q, hA, hV, rfl, hz, hn⟩ := hW
  rw [hvs] at hV
  obtain ⟨rfl, rfl⟩ := trodVars_none hV
  simp only [List.append_nil] at hW' hlt hz
  have hr1 : ∀ (b : Nat) (sp : Nat → Bool) (hd : Bool), DataW.TrodAll enc P W' b sp hd f.resultTypes.toList ((Value.bool true).resultList f.resultTypes.size) (s.fn H (ds ++ [])).results [] := by
    intro b sp hd
    rw [List.append_nil, hfn, hres]
    exact trodAll_cons_mk (shut_bool hB _) trodAll_mk0
  have ha : ∀ sp : Nat → Bool, (∀ x ∈ p, sp x.block = true) → DataW.TrodAll enc P W' 0 sp true f.params.toList args.toList (s.fn H (ds ++ [])).args p := by
    intro sp hsp
    rw [List.append_nil, hfn]
    exact trodAll_stays hl hb sp _ _ _ _ hr hA hlt hsp
  have hv : ∀ sp : Nat → Bool, DataW.TrodVars enc P W' sp s.vars (s.fn H (ds ++ [])).vars [] := by
    intro sp
    rw [List.append_nil, hfn, hvs]
    rfl
  have hold : ∀ x ∈ p, (fun b => decide (b < W.heap.size)) x.block = true := fun x hx => by simpa using hlt x hx
  refine ⟨ds, [], p, [], p, [], hW', hr1 _ _ _, ha _ hold, hv _, World.keptBut_mono (fun x hx => ⟨hx, Or.inr (Or.inl hx)⟩) (hb.frame (· ∈ p)), fun _ => ?_⟩
  refine ⟨ok_one hres rfl (okWide_bool_mk hB _), _, _, ([] ++ p) ++ [], ⟨[] ++ p, [], trodAll_append (ha _ (fun _ _ => rfl)) (hr1 _ _ _), hv _, rfl, ?_, ?_⟩, ?_⟩
  · intro b off hp
    simp only [List.nil_append, List.append_nil] at hp
    have h1 := hlt _ hp
    rw [hb.frozen (p := ⟨b, off, none⟩) h1]
    exact hz b off hp
  · intro ha; cases ha
  · intro x hx _
    simpa using hx
theorem law_calls {H : Type} {enc : TypeId × Value → H} {P : Program} {n : FuncId} {f : Func} {s : ChangeSpec} {W : World} {args : List Value} {ds gs : List (DataW H)} {before : List MemPlace} {B : TypeId}
    (hl : laidOutB P = true) (hr : ∀ t ∈ f.params.toList, P.readableRec t = true ∧ t < P.types.size) (hvs : s.vars = []) (hres : f.resultTypes = #[B]) (hB : P.underlying B = some .bool)
    (hfn : s.fn H ds = { results := [.lit (.bool true)], args := ds })
    (hW : DataW.Whole enc P f.params.toList s.vars false W args.toArray.toList ds gs before) (hc : Fn P n args W (fun r w2 => r = .bool true ∧ Ext (fun _ => False) W w2)) :
    Calls P n args.toArray W fun e W' => ∃ v, e = .returned v ∧ s.post enc P f false true false false W args.toArray v W' := by
  refine (hc.2 W (.refl W)).mono fun e W' ⟨r, w2, hs, he, hr', hx⟩ => ?_
  subst he hr'
  exact ⟨_, rfl, post_true hl hr hvs hres hB hfn hW (hx.trans (.same hs)).below⟩
end Go.Proofs.YthliepcjfnjnoaaGreatDoor
namespace Go.Proofs.YthliepcjfnjnoaaGreatDoor
open Go Go.RowKit
def Ty.pair {α β : Type} (s : Ty α) (t : Ty β) : Ty (α × β) where
  size := s.size + t.size
  rep P w v x := ∃ u u', v = .agg (u.cells ++ u'.cells) ∧ s.rep P w u x.1 ∧ t.rep P w u' x.2
  sz := by
    rintro P w _ x ⟨u, u', rfl, h1, h2⟩
    show (u.cells ++ u'.cells).size = _
    rw [Array.size_append, s.sz h1, t.sz h2]
  one := by
    rintro P w _ x ⟨u, u', rfl, h1, h2⟩ c hc
    have hc' : c ∈ (u.cells ++ u'.cells).toList := hc
    rw [Array.toList_append, List.mem_append] at hc'
    rcases hc' with h | h
    · exact s.one h1 c h
    · exact t.one h2 c h
  keep := by
    rintro P w w' _ x ⟨u, u', rfl, h1, h2⟩ hk
    exact ⟨u, u', rfl, s.keep h1 hk, t.keep h2 hk⟩
  mono := by
    rintro P P' w _ x ⟨u, u', rfl, h1, h2⟩ hk
    exact ⟨u, u', rfl, s.mono h1 hk, t.mono h2 hk⟩
def Ty.map {α β : Type} (t : Ty α) (f : β → α) : Ty β where
  size := t.size
  rep P w v y := t.rep P w v (f y)
  sz := fun h => t.sz h
  one := fun h => t.one h
  keep := fun h hk => t.keep h hk
  mono := fun h hk => t.mono h hk
inductive ResEv (P : Program) (e : Env) (w : World) : List ResultVar → List Value → Prop where
  | nil : ResEv P e w [] []
  | tmp {t : Nat} {v : Value} {r : List ResultVar} {vs : List Value} : e.get t = some v → ResEv P e w r vs → ResEv P e w (.tmp t :: r) (v :: vs)
  | cell {a b o n : Nat} {T : TypeId} {d : TypeDesc} {cs : List Value} {r : List ResultVar} {vs : List Value} : e.get a = some (.pointer (some ⟨b, o, none⟩)) → P.underlying T = some d → aggD d = true → sizeIs P T n → cs.length = n → Cells w b o cs → ResEv P e w r vs →
      ResEv P e w (.cell a T :: r) (.agg cs.toArray :: vs)
theorem ResEv.run {P : Program} {e : Env} {w w' : World} {n : Sz} {a : Act} (hw : Same w w') (ha : Ag n e a) (f : ResultVar → Sem Value) (hf : ∀ t, f (.tmp t) = pure (a.tmps.getD t undef)) (hc : ∀ c T, f (.cell c T) = (do loadVar T (← asAddr (a.tmps.getD c undef)))) {l : List ResultVar} {vs : List Value} (h : ResEv P e w l vs) :
    (l.mapM f).run P w' = .ok vs w' := by
  induction h with
  | nil => rfl
  | tmp h1 _ ih =>
    have := ha.2.2 _ _ h1
    simp [List.mapM_cons, hf, this, ih]
  | cell h1 hT hd hs hn hcs _ ih =>
    have := ha.2.2 _ _ h1
    subst hn
    have hl := hcs.load P (.same hw)
    simp [List.mapM_cons, hc, this, ih, asAddr, loadVar, isAgg_run hT, hd, hs.run, hl]
theorem results_ev {P : Program} {e : Env} {w w' : World} {n : Sz} {a : Act} {fn : Func} {vs : List Value} (hw : Same w w') (ha : Ag n e a) (h : ResEv P e w fn.results.toList vs) : (results fn a.tmps).run P w' = .ok (outV vs) w' := by
  unfold results
  rw [Sem.run_bind, Array.mapM_eq_mapM_toList]
  rw [Sem.run_map, h.run hw ha _ (fun t => by rfl) (fun c T => by rfl)]
  simp only [Result.andThen_ok]
  match vs with
  | [] => rfl
  | [v] => rfl
  | v :: u :: r => simp [outV]
theorem G.retR {P : Program} {fn : Func} {n : Nat} {Post : Value → World → Prop} {e : Env} {k : List It} {w : World} {vs : List Value}
    (hv : ResEv P e w fn.results.toList vs) (hp : Post (outV vs) w) : G ⟨P, ⟨n, []⟩, bodyPost P fn (Ret Post)⟩ e .ret k w :=
  fun w' hw a ha => wp_ret (post_ret k a w' ⟨ha.1, outV vs, results_ev hw ha hv, outV vs, w, hw, rfl, hp⟩)
end Go.Proofs.YthliepcjfnjnoaaGreatDoor
namespace Go.Proofs.YthliepcjfnjnoaaGreatDoor
open Go
def Fr.off (F : Fr) (d : Deferred) : Fr := ⟨F.P, ⟨F.z.n, d :: F.z.D⟩, F.R⟩
theorem post_off (F : Fr) (d : Deferred) : ∀ k : List It, post (F.off d) k = post F k
  | [] => rfl
  | .code c :: k => by simp only [post, post_off F d k]; rfl
  | .blk id :: k => by simp only [post, post_off F d k]
  | .inv J :: k => by simp only [post, post_off F d k]
  | .sco :: k => by simp only [post, post_off F d k]
section
variable {F : Fr} {e : Env} {k : List It} {w : World} {all rest : List Oper} {d : Nat} {op : Op} {ty : TypeId} {pos : String} {af : Array Edge} {g : Option (Nat × Bool)}
theorem O.defer {c : Operand} {f : FuncId} {xs : List Operand} {ats : Array TypeId} {vs captured : List Value} (hg : gd e all g = some true)
    (hf : look e c = some (.func (.func f) #[] captured.toArray)) (hx : xs.mapM (look e) = some vs)
    (next : O (F.off ⟨.fn (.func f) captured.toArray, vs.toArray⟩) e all rest k w) :
    O F e all (⟨none, .defer { callee := .value c, args := xs.toArray, argTypes := ats }, ty, pos, af, g⟩ :: rest) k w := by
  intro w' hw a ha
  refine wpList_step fun K hK => ?_
  rw [if_pos (gd_wanted ha hg)]
  unfold Oper.wp
  have hr : (execOp a.eval ⟨none, .defer { callee := .value c, args := xs.toArray, argTypes := ats }, ty, pos, af, g⟩).run F.P w' = .ok (.defer ⟨.fn (.func f) captured.toArray, vs.toArray⟩) w' := by
    have h1 := ha.ev hf
    have h2 := look_args (fun x u hx => ha.ev hx) xs vs hx
    simp [execOp, resolve, Deferred.ofValue, h1, h2, Sem.run_bind]
  rw [hr, Oper.upon_defer]
  refine hK _ _ ?_
  have := next w' hw { a with defers := ⟨.fn (.func f) captured.toArray, vs.toArray⟩ :: a.defers } ⟨by show _ :: a.defers = _; rw [ha.1]; rfl, ha.2.1, ha.2.2⟩
  rw [post_off] at this
  exact this
end
def FnD (P : Program) (f : FuncId) (args : List Value) (w : World) (Post : Value → World → Prop) : Prop :=
  (∀ w', (callFunc f args.toArray).run P w' = .ok (.enter f args.toArray) w') ∧ ∀ w', Same w w' → ∀ u, CallsD P f args.toArray u w' (fun e u' w2 => u' = u ∧ Ret Post e w2)
theorem FnD.enter {P : Program} {f : FuncId} {fn : Func} {c : Code} {args : List Value} {w : World} {Post : Value → World → Prop}
    (hc : ∀ w', (callFunc f args.toArray).run P w' = .ok (.enter f args.toArray) w') (hf : P.funcs[f]? = some fn) (hb : fn.body = some c)
    (h : G ⟨P, ⟨fn.ntmps, []⟩, bodyPost P fn (Ret Post)⟩ (argEnv 0 args) c [] w) : FnD P f args w Post := by
  refine ⟨hc, fun w' hw u => callsD_of_wp hf hb (h w' hw _ ⟨rfl, ?_, ?_⟩)⟩
  · simp; omega
  · intro t v ht
    obtain ⟨_, h2⟩ := argEnv_get args 0 t v ht
    simp only [Nat.sub_zero] at h2
    have hlt : t < args.length := (List.getElem?_eq_some_iff.1 h2).1
    rw [Array.getD_eq_getD_getElem?, Array.getElem?_append_left (by simpa using hlt)]
    simp [h2]
theorem Fn.enterD {P : Program} {f : FuncId} {fn : Func} {c : Code} {args : List Value} {w : World} {Post : Value → World → Prop}
    (hc : ∀ w', (callFunc f args.toArray).run P w' = .ok (.enter f args.toArray) w') (hf : P.funcs[f]? = some fn) (hb : fn.body = some c)
    (h : G ⟨P, ⟨fn.ntmps, []⟩, bodyPostD P fn (Ret Post)⟩ (argEnv 0 args) c [] w) : Fn P f args w Post := by
  refine ⟨hc, fun w' hw => calls_of_wp_defers hf hb (h w' hw _ ⟨rfl, ?_, ?_⟩)⟩
  · simp; omega
  · intro t v ht
    obtain ⟨_, h2⟩ := argEnv_get args 0 t v ht
    simp only [Nat.sub_zero] at h2
    have hlt : t < args.length := (List.getElem?_eq_some_iff.1 h2).1
    rw [Array.getD_eq_getD_getElem?, Array.getElem?_append_left (by simpa using hlt)]
    simp [h2]
inductive ResC (P : Program) (e : Env) (w : World) : List ResultVar → List Value → Prop where
  | nil : ResC P e w [] []
  | tmp {t : Nat} {v : Value} {r : List ResultVar} {vs : List Value} : e.get t = some v → ResC P e w r vs → ResC P e w (.tmp t :: r) (v :: vs)
  | cell {a : Nat} {p : Addr} {v : Value} {T : TypeId} {d : TypeDesc} {r : List ResultVar} {vs : List Value} : e.get a = some (.pointer (some p)) → P.underlying T = some d → aggD d = false → w.cell? p = some v → ResC P e w r vs →
      ResC P e w (.cell a T :: r) (v :: vs)
theorem ResC.run {P : Program} {e : Env} {w w' : World} {n : Sz} {a : Act} (hw : Same w w') (ha : ∀ t v, e.get t = some v → a.tmps.getD t undef = v) (f : ResultVar → Sem Value) (hf : ∀ t, f (.tmp t) = pure (a.tmps.getD t undef)) (hc : ∀ c T, f (.cell c T) = (do loadVar T (← asAddr (a.tmps.getD c undef)))) {l : List ResultVar} {vs : List Value} (h : ResC P e w l vs) :
    (l.mapM f).run P w' = .ok vs w' := by
  induction h with
  | nil => rfl
  | tmp h1 _ ih =>
    have := ha _ _ h1
    simp [List.mapM_cons, hf, this, ih]
  | cell h1 hT hd hcs _ ih =>
    have := ha _ _ h1
    have hl := (hw.cell _).trans hcs
    simp [List.mapM_cons, hc, this, ih, asAddr, loadVar, isAgg_run hT, hd, hl]
theorem results_c {P : Program} {e : Env} {w w' : World} {a : Act} {fn : Func} {vs : List Value} (hw : Same w w') (ha : ∀ t v, e.get t = some v → a.tmps.getD t undef = v) (h : ResC P e w fn.results.toList vs) : (results fn a.tmps).run P w' = .ok (outV vs) w' := by
  unfold results
  rw [Sem.run_bind, Array.mapM_eq_mapM_toList]
  rw [Sem.run_map, h.run (n := ⟨0, []⟩) hw ha _ (fun t => by rfl) (fun c T => by rfl)]
  simp only [Result.andThen_ok]
  match vs with
  | [] => rfl
  | [v] => rfl
  | v :: u :: r => simp [outV]
theorem G.retD {P : Program} {fn : Func} {n : Nat} {Post Mid : Value → World → Prop} {e : Env} {k : List It} {w : World} {f : FuncId} {captured args : List Value}
    (hd : FnD P f (args ++ captured) w Mid) (hp : ∀ r w2, Mid r w2 → ∃ vs, ResC P e w2 fn.results.toList vs ∧ Post (outV vs) w2) : G ⟨P, ⟨n, [⟨.fn (.func f) captured.toArray, args.toArray⟩]⟩, bodyPostD P fn (Ret Post)⟩ e .ret k w := by
  intro w' hw a ha
  refine wp_ret (post_ret k a w' ?_)
  show Leaves P fn a.tmps (Ret Post) a.defers .returning w'
  rw [ha.1]
  refine leaves_cons (f := f) (args := (args ++ captured).toArray) (by intro h; cases h) ?_ ?_
  · have := hd.1 w'
    simpa [invoke] using this
  · refine (hd.2 w' hw .returning).mono ?_
    rintro en u' w3 ⟨rfl, r, w2, hs, rfl, hm⟩
    obtain ⟨vs, hv, hpo⟩ := hp r w2 hm
    show Leaves P fn a.tmps (Ret Post) [] (settle .returning) w3
    exact ⟨_, results_c hs ha.2.2 hv, _, w2, hs, rfl, hpo⟩
end Go.Proofs.YthliepcjfnjnoaaGreatDoor
namespace Go.Proofs.YthliepcjfnjnoaaGreatDoor
open Go
theorem Sl.cutE {α : Type} {t : Ty α} {P : Nat → Prop} {w : World} {xs : List α} {a : Option Addr} {n cap : Nat} (h : (Sl t).rep P w (.slice a n cap) xs) (l k : Nat) (h1 : l ≤ k) (h2 : k ≤ n) :
    ∃ a' cap', cutV t.size a cap l k = .slice a' (k - l) cap' ∧ k - l ≤ cap' ∧ (Sl t).rep P w (.slice a' (k - l) cap') ((xs.take k).drop l) := by
  have hr := Sl.cut h l k h1 h2
  obtain ⟨a', cap', hv, hc⟩ := Sl.val hr
  have hn : xs.length = n := by obtain ⟨_, a0, c0, e, _⟩ := h; cases e; rfl
  have hlen : ((xs.take k).drop l).length = k - l := by simp; omega
  rw [hlen] at hv hc
  rw [hv] at hr
  exact ⟨a', cap', hv, hc, hr⟩
theorem flat_set {n : Nat} : ∀ {us : List Value} (i j : Nat) (u v' : Value), (∀ x ∈ us, x.cells.size = n) → j < n → (∀ x, us[i]? = some x → v'.cells.toList = x.cells.toList.set j u) → (flat us).set (i * n + j) u = flat (us.set i v')
  | [], i, j, u, v', _, _, _ => by simp [flat]
  | x :: us, 0, j, u, v', h, hj, hv => by
    have hx : x.cells.toList.length = n := by rw [Array.length_toList, h x (by simp)]
    rw [List.set_cons_zero, flat_cons, flat_cons, Nat.zero_mul, Nat.zero_add, List.set_append_left _ _ (by omega), hv x (by simp)]
  | x :: us, i + 1, j, u, v', h, hj, hv => by
    have hx : x.cells.toList.length = n := by rw [Array.length_toList, h x (by simp)]
    have hle : x.cells.toList.length ≤ (i + 1) * n + j := by rw [hx, Nat.add_mul]; omega
    rw [List.set_cons_succ, flat_cons, flat_cons, List.set_append_right _ _ hle, ← flat_set i j u v' (fun y hy => h y (by simp [hy])) hj (fun y hy => hv y (by simpa using hy))]
    congr 2
    rw [hx, Nat.add_mul]
    omega
def OwnO {α : Type} (t : Ty α) (Q : Nat → Prop) (E : TypeId) (w : World) (v : Value) (xs : List α) (B : Nat → Prop) : Prop :=
  (xs = [] ∧ v = .slice none 0 0) ∨ ∃ b, B b ∧ b < w.heap.size ∧ Own t Q E w v xs b
section
variable {α : Type} {t : Ty α} {Q Q' : Nat → Prop} {E : TypeId} {w w' : World} {v : Value} {xs ys : List α} {B B' : Nat → Prop}
theorem OwnO.nil : OwnO t Q E w (.slice none 0 0) [] B := .inl ⟨rfl, rfl⟩
theorem OwnO.of {b : Nat} (h : Own t Q E w v xs b) (hb : B b) : OwnO t Q E w v xs B := by
  have h' := h
  obtain ⟨hl, ⟨rfl, rfl⟩ | ⟨cap, us, sp, rfl, hc, he, hB, hn⟩⟩ := h'
  · exact .inl ⟨rfl, rfl⟩
  · exact .inr ⟨b, hb, hB.lt, h⟩
theorem OwnO.val (h : OwnO t Q E w v xs B) : ∃ a cap, v = .slice a xs.length cap ∧ xs.length ≤ cap := by
  rcases h with ⟨rfl, rfl⟩ | ⟨b, _, _, h⟩
  · exact ⟨none, 0, rfl, Nat.le_refl _⟩
  · exact h.val
theorem OwnO.mono (h : OwnO t Q E w v xs B) (hq : ∀ k, Q k → k < w.heap.size → Q' k) (hb : ∀ k, B k → k < w.heap.size → B' k) : OwnO t Q' E w v xs B' := by
  rcases h with h | ⟨b, h1, h2, h3⟩
  · exact .inl h
  · exact .inr ⟨b, hb b h1 h2, h2, h3.mono hq⟩
theorem OwnO.ext {S : Nat → Prop} (h : OwnO t Q E w v xs B) (hx : Ext S w w') (hb : ∀ k, B k → k < w.heap.size → ¬ S k) (hq : ∀ k, Q k → k < w.heap.size → ¬ S k) : OwnO t Q E w' v xs B := by
  rcases h with h | ⟨b, h1, h2, h3⟩
  · exact .inl h
  · exact .inr ⟨b, h1, Nat.lt_of_lt_of_le h2 hx.size, h3.ext hx (hb b h1 h2) hq⟩
theorem OwnO.ext0 (h : OwnO t Q E w v xs B) (hx : Ext (fun _ => False) w w') : OwnO t Q E w' v xs B := h.ext hx (fun _ _ _ x => x) (fun _ _ _ x => x)
theorem OwnO.rep {R : Nat → Prop} (h : OwnO t Q E w v xs B) (hb : ∀ k, B k → k < w.heap.size → R k) (hq : ∀ k, Q k → k < w.heap.size → R k) : (Sl t).rep R w v xs := by
  rcases h with ⟨rfl, rfl⟩ | ⟨b, h1, h2, h3⟩
  · exact Sl.nil
  · exact h3.rep (hb b h1 h2) hq
end
theorem Ev.makeFunc {P : Program} {e : Env} {w : World} {fn : Go.Fn} {xs ys : List Operand} {us vs : List Value} (hx : xs.mapM (look e) = some us) (hy : ys.mapM (look e) = some vs) : Ev P e (.makeFunc fn xs.toArray ys.toArray) w (.func fn us.toArray vs.toArray) :=
  fun w' _ ρ hρ o ho => by
    have h1 := look_args hρ xs us hx
    have h2 := look_args hρ ys vs hy
    simp [execOp, ho, Instr.makeFunc, h1, h2]
end Go.Proofs.YthliepcjfnjnoaaGreatDoor
namespace Go.Proofs.YthliepcjfnjnoaaGreatDoor
open Go
theorem OwnO.ofOwn {α : Type} {t : Ty α} {Q B : Nat → Prop} {E : TypeId} {w : World} {v : Value} {xs : List α} {b : Nat} (h : Own t Q E w v xs b) (hb : b < w.heap.size → B b) : OwnO t Q E w v xs B := by
  have h' := h
  obtain ⟨hl, ⟨rfl, rfl⟩ | ⟨cap, us, sp, rfl, hc, he, hB, hn⟩⟩ := h'
  · exact .inl ⟨rfl, rfl⟩
  · exact .inr ⟨b, hb hB.lt, hB.lt, h⟩
theorem OwnO.lim {α : Type} {t : Ty α} {Q B : Nat → Prop} {E : TypeId} {w : World} {v : Value} {xs : List α} (h : OwnO t Q E w v xs B) : xs.length < Lim := by
  rcases h with ⟨rfl, _⟩ | ⟨b, _, _, h⟩
  · show 0 < Lim; decide
  · exact h.lim
section
variable {P : Program} {e : Env} {w : World} {x y : Operand} {T T' E : TypeId} {v u : Value} {α : Type} {t : Ty α} {Q : Nat → Prop} {xs ys : List α} {B : Nat → Prop}
theorem DoV.appendLo {i : TypeInfo} {z : Value} {eb : Nat} (hx : look e x = some v) (hv : OwnO t Q E w v xs B) (hlo : ∀ k, w.heap.size ≤ k → B k) (hy : look e y = some u) (hu : (∃ a cap, u = .slice a 0 cap ∧ ys = []) ∨ Holds t Q w u ys)
    (hT : P.underlying T = some (.slice E)) (hT' : P.underlying T' = some (.slice E)) (hi : P.info? E = some i) (hz : i.zero = some z) (hs : i.size = t.size) (hzs : z.cells.size = t.size) (hby : i.bytes = eb) (hlim : (xs.length + ys.length) * eb ≤ 140737488355328) (hlen : xs.length + ys.length < Lim) (hq : ∀ k, Q k → k < w.heap.size → ¬ B k) :
    DoV P e (.call { callee := .builtin .append, args := #[x, y], argTypes := #[T, T'] }) w (fun r w2 => OwnO t Q E w2 r (xs ++ ys) B ∧ Ext B w w2) := by
  have key : ∀ b, B b → Own t Q E w v xs b → DoV P e (.call { callee := .builtin .append, args := #[x, y], argTypes := #[T, T'] }) w (fun r w2 => OwnO t Q E w2 r (xs ++ ys) B ∧ Ext B w w2) := by
    intro b hb hO w' hw ρ hρ o ho
    obtain ⟨r, w2, w3, h1, h2, b', h3, h4, h5⟩ := DoV.append (P := P) hx hO hy hu hT hT' hi hz hs hzs hby hlim hlen (fun k hk hlt he => hq k hk hlt (he ▸ hb)) w' hw ρ hρ o ho
    exact ⟨r, w2, w3, h1, h2, OwnO.ofOwn (h3.mono (fun k hk _ => hk.1)) (fun _ => h5.elim (fun e => by rw [e]; exact hb) (fun e => by rw [e]; exact hlo _ (Nat.le_refl _))), h4.mono (fun k _ hk => by rw [hk]; exact hb)⟩
  rcases hv with ⟨rfl, rfl⟩ | ⟨b, hb, _, hO⟩
  · exact key w.heap.size (hlo _ (Nat.le_refl _)) Own.nil
  · exact key b hb hO
theorem DoV.appendSLo {i : TypeInfo} {z : Value} {bx l : Bs} (hx : look e x = some v) (hv : OwnO tByte Q E w v bx B) (hlo : ∀ k, w.heap.size ≤ k → B k) (hy : look e y = some (str l))
    (hT : P.underlying T = some (.slice E)) (hT' : P.underlying T' = some .string) (hi : P.info? E = some i) (hz : i.zero = some z) (hs : i.size = 1) (hzs : z.cells.size = 1) (hby : i.bytes = 1) (hlen : bx.length + l.length < Lim) (hq : ∀ k, Q k → k < w.heap.size → ¬ B k) :
    DoV P e (.call { callee := .builtin .append, args := #[x, y], argTypes := #[T, T'] }) w (fun r w2 => OwnO tByte Q E w2 r (bx ++ l) B ∧ Ext B w w2) := by
  have key : ∀ b, B b → Own tByte Q E w v bx b → DoV P e (.call { callee := .builtin .append, args := #[x, y], argTypes := #[T, T'] }) w (fun r w2 => OwnO tByte Q E w2 r (bx ++ l) B ∧ Ext B w w2) := by
    intro b hb hO w' hw ρ hρ o ho
    obtain ⟨r, w2, w3, h1, h2, b', h3, h4, h5⟩ := DoV.appendS (P := P) hx hO hy hT hT' hi hz hs hzs hby hlen (fun k hk hlt he => hq k hk hlt (he ▸ hb)) w' hw ρ hρ o ho
    exact ⟨r, w2, w3, h1, h2, OwnO.ofOwn (h3.mono (fun k hk _ => hk.1)) (fun _ => h5.elim (fun e => by rw [e]; exact hb) (fun e => by rw [e]; exact hlo _ (Nat.le_refl _))), h4.mono (fun k _ hk => by rw [hk]; exact hb)⟩
  rcases hv with ⟨rfl, rfl⟩ | ⟨b, hb, _, hO⟩
  · exact key w.heap.size (hlo _ (Nat.le_refl _)) Own.nil
  · exact key b hb hO
end
abbrev Gr (w : World) (v : Value) (l : Bs) (lo : Nat) : Prop := OwnO tByte (fun _ => False) 5 w v l (fun k => lo ≤ k)
theorem Gr.rep {w : World} {v : Value} {l : Bs} {lo : Nat} (h : Gr w v l lo) : tBytes.rep All w v l := OwnO.rep h (fun _ _ _ => trivial) (fun _ h _ => h.elim)
theorem Gr.rep' {w : World} {v : Value} {l : Bs} {lo : Nat} (h : Gr w v l lo) : tBytes.rep (fun k => lo ≤ k ∧ k < w.heap.size) w v l := OwnO.rep h (fun _ h1 h2 => ⟨h1, h2⟩) (fun _ h _ => h.elim)
theorem Gr.low {w : World} {v : Value} {l : Bs} {lo lo' : Nat} (h : Gr w v l lo) (hl : lo' ≤ lo) : Gr w v l lo' := OwnO.mono h (fun _ h _ => h) (fun k h _ => Nat.le_trans hl h)
theorem Gr.ext0 {w w' : World} {v : Value} {l : Bs} {lo : Nat} (h : Gr w v l lo) (hx : Ext (fun _ => False) w w') : Gr w' v l lo := OwnO.ext0 h hx
theorem Gr.holds {w : World} {v : Value} {l : Bs} {P : Nat → Prop} (h : tBytes.rep P w v l) : (∃ a cap, v = .slice a 0 cap ∧ l = []) ∨ Holds tByte (fun _ => False) w v l := Sl.holds h (fun _ _ h => h)
theorem Ev.cut3 {P : Program} {e : Env} {w : World} {x lo hi mx : Operand} {T E : TypeId} {a : Option Addr} {n cap s : Nat} {k k' k2 : IntKind} {l h m : Int} (hx : look e x = some (.slice a n cap)) (hl : look e lo = some (.int k l)) (hh : look e hi = some (.int k' h)) (hm : look e mx = some (.int k2 m)) (hT : P.underlying T = some (.slice E)) (hs : sizeIs P E s)
    (hb : 0 ≤ l ∧ l ≤ h ∧ h ≤ m ∧ m ≤ cap) : Ev P e (.slice T x (some lo) (some hi) (some mx)) w (cutV s a m.toNat l.toNat h.toNat) :=
  fun w' hw ρ hρ op ho => by
    have h1 : 0 ≤ h := by omega
    have h2 : ((h.toNat : Nat) : Int) = h := Int.toNat_of_nonneg h1
    have h3 : 0 ≤ m := by omega
    have h4 : ((m.toNat : Nat) : Int) = m := Int.toNat_of_nonneg h3
    simp [execOp, ho, hρ _ _ hx, hρ _ _ hl, hρ _ _ hh, hρ _ _ hm, Instr.sliceAt, Instr.slice, run_underlying hT, Instr.sliceBounds, run_sliceBound, hb.1, hb.2.1, hb.2.2.1, hb.2.2.2, h1, h2, h3, h4, hs.run, cutV]
theorem Ev.callX {P : Program} {e : Env} {w : World} {c : Operand} {f : FuncId} {xs : List Operand} {ats : Array TypeId} {vs : List Value} {v : Value} (hf : look e c = some (.func (.func f) #[] #[])) (hx : xs.mapM (look e) = some vs) (hr : ∀ w, (callFunc f vs.toArray).run P w = .ok (.value v) w) : Ev P e (.call { callee := .value c, args := xs.toArray, argTypes := ats }) w v :=
  fun w' _ ρ hρ o ho => by
    have h1 := run_call_value (P := P) (ρ := ρ) (first := []) (captured := []) ho (hρ _ _ hf) w'
    rw [h1, look_args hρ xs vs hx, List.nil_append, List.append_nil]
    exact hr w'
theorem Ev.ltS {P : Program} {e : Env} {w : World} {x y : Operand} {T T' : TypeId} {a b : Bs} (hx : look e x = some (str a)) (hy : look e y = some (str b)) : Ev P e (.binOp .lss T x y T') w (.bool (Op.bytesLess a b)) :=
  fun w' _ ρ hρ o ho => by
    have h1 : (bs a).toList = a := bs_toList a
    have h2 : (bs b).toList = b := bs_toList b
    simp [execOp, ho, hρ _ _ hx, hρ _ _ hy, eqGuard, binOp, Op.stringOp, h1, h2]
end Go.Proofs.YthliepcjfnjnoaaGreatDoor
namespace Go.Proofs.YthliepcjfnjnoaaGreatDoor
open Go
theorem rowsIn_of {P : Program} {row : String} {args : Array Value} {w : World} {R : Value → World → Prop} {l n : Nat} (h : Rows P row args w R) : RowsIn (Fence.wide.inRound l) n P row args w R :=
  fun c cs _ => let ⟨v, w', r, s⟩ := h c cs; ⟨v, w', r, (stepsIn_wide (P := P)).2 s⟩
theorem operIn_of {P : Program} {o : Oper} {a : Act} {w : World} {K K' : Act → World → Prop} {Q : Exit → Act → World → Prop} {l n : Nat} (hnd : ∀ c, o.op ≠ .defer c) (hk : ∀ a w, K a w → K' a w) (h : o.wp P a w K Q) : o.wpIn (Fence.wide.inRound l) n P a w K' Q := by
  refine ⟨fun _ _ => trivial, ?_⟩
  show o.uponIn _ n P a K' Q ((o.semAt (some l) a.eval).run P w)
  rw [Oper.semAt_eq _ _ _ hnd]
  unfold Oper.wp at h
  generalize (execOp a.eval o).run P w = r at h
  cases r with
  | ok x w' =>
    cases x with
    | value v => exact hk _ _ h
    | skip => exact hk _ _ h
    | defer d => exact hk _ _ h
    | enter f args =>
      rw [Oper.upon_enter] at h
      refine ⟨(fun h => by cases h), CallsIn.inRound l (callsIn_wide.2 (Calls.mono h ?_))⟩
      intro e w'' he
      cases e with
      | returned v => exact hk _ _ he
      | panicked c => exact he
      | outgrown => exact he
    | row r args =>
      rw [Oper.upon_row] at h
      exact ⟨(fun h => by cases h), rowsIn_of (Rows.mono h (fun v w'' he => hk _ _ he))⟩
    | _ => exact (h : False).elim
  | halt x w' => cases x <;> simp only [Oper.upon] at h <;> simp only [Oper.uponIn] <;> exact h
theorem opsIn_of {P : Program} {ops : Array Oper} {Q : Exit → Act → World → Prop} {l n : Nat} (hno : ¬ LetsOut Q) (hnd : ∀ o ∈ ops.toList, ∀ c, o.op ≠ .defer c) :
    ∀ (is : List Nat) (a : Act) (w : World), wpOps P ops Q is a w → wpOpsIn (Fence.wide.inRound l) n P ops Q is a w
  | [], _, _, h => h
  | i :: rest, a, w, h => by
    simp only [wpOps] at h
    simp only [wpOpsIn]
    cases ho : ops[i]? with
    | none => simp only [ho] at h; exact opsIn_of hno hnd rest a w h
    | some o =>
      simp only [ho] at h
      have hm : o ∈ ops.toList := by
        have := Array.getElem?_toList (xs := ops) (i := i)
        rw [ho] at this
        exact List.mem_of_getElem? this
      by_cases hw : Region.wanted o (yielded ops a.tmps) = true
      · simp only [hw, if_true] at h ⊢
        rcases h with h | h
        · exact operIn_of (hnd o hm) (opsIn_of hno hnd rest) h
        · exact absurd h.2 hno
      · simp only [hw, Bool.false_eq_true, if_false] at h ⊢
        exact ⟨fun _ _ => trivial, opsIn_of hno hnd rest _ w h⟩
def noDefer (l : List Oper) : Bool := l.all (fun o => match o.op with | .defer _ => false | _ => true)
theorem noDefer_of {l : List Oper} (h : noDefer l = true) : ∀ o ∈ l, ∀ c, o.op ≠ .defer c := by
  intro o ho c he
  have := List.all_eq_true.1 h o ho
  rw [he] at this
  cases this
section
variable {F : Fr} {e : Env} {w : World}
theorem roundRegion {id l n : Nat} {ops : List Oper} (hno : ¬ LetsOut F.R) (hd : noDefer ops = true) (h : O F e ops ops [] w) {w' : World} (hw : Same w w') {a : Act} (ha : Ag F.z e a) : (Code.region id ops.toArray false).wpIn (Fence.wide.inRound l) n F.P F.R a w' := by
  have h1 := h w' hw a ha
  refine wpIn_region (opsIn_of hno (by simpa using noDefer_of hd) _ _ _ ?_)
  rw [List.range_eq_range', ← Array.length_toList, wpOps_eq_wpList ops.toArray.toList 0 (by simp)]
  have h2 : wpList F.P ops.toArray F.R ops a w' := h1
  simpa using h2
theorem roundMix {id l n : Nat} {ops : List Oper} (S : Nat → Prop) (al : List Nat) (hm : F.P.follows .mixedOrders = true) (hB : Region.lexB .any ops.toArray = true) (hA : actB .any ops.toArray (fun j => al.contains j) = true)
    (hno : ¬ LetsOut F.R) (hd : noDefer ops = true) (h : M F S w al e ops 0 ops [] w) {w' : World} (hw : Same w w') {a : Act} (ha : Ag F.z e a) : (Code.region id ops.toArray true).wpIn (Fence.wide.inRound l) n F.P F.R a w' := by
  refine wpIn_region_draw fun t => opsIn_of hno (by simpa using noDefer_of hd) _ _ _ ?_
  simp only [Region.schedule, hm, Bool.true_or, if_true]
  refine wpAny_sound _ t _ a _ ?_
  simp only [Region.lexB, Bool.and_eq_true] at hB
  refine wpAny_of_M (C := Ext S w) (act := fun j => al.contains j) (Q := fun a' w' => F.R .normal a' w') (fun _ _ h => h) _ _ _ _ ?_
  have := wpAnyM_lex (C := Ext S w) (md := .any) hB.1 hA ops.toArray.toList 0 (Array.replicate ops.toArray.size false) a _ (by simp) (.inl (.same (hw.trans (same_draw w')))) ⟨by simp, fun j oj hj hl => by rw [getD_replicate_false] at hl; cases hl⟩ (by simpa using hB.2) (show wpMix F.P .any ops.toArray (Ext S w) (fun j => al.contains j) (fun a' w2 => F.R .normal a' w2) ops.toArray.toList 0 a w'.drew from h (.refl _) _ (hw.trans (same_draw w')) a ha)
  simpa using this
end
def OI (F : Fr) (e : Env) (all ops : List Oper) (k : List It) (w : World) : Prop := ∀ w', Same w w' → ∀ a, Ag F.z e a → wpListIn Fence.wide 0 F.P all.toArray (post F k) ops a w'
section
variable {F : Fr} {e : Env} {k : List It} {w : World} {all rest : List Oper} {d : Nat} {op : Op} {ty : TypeId} {pos : String} {af : Array Edge} {g : Option (Nat × Bool)}
theorem G.regionI {id : Nat} {l : List Oper} (h : OI F e l l k w) : G F e (.region id l.toArray false) k w := fun w' hw a ha => wpIn_wide.1 (wpIn_region_lit (h w' hw a ha))
theorem OI.nil (h : A F e k w) : OI F e all [] k w := fun w' hw a ha => h w' hw a ha
theorem OI.p {v : Value} (hd : Nat.blt d F.n = true) (hg : gd e all g = some true) (h : Ev F.P e op w v) (next : OI F ((d, v) :: e) all rest k w) : OI F e all (⟨some d, op, ty, pos, af, g⟩ :: rest) k w := by
  intro w' hw a ha
  refine wpListIn_step fun K hK => ?_
  rw [if_pos (gd_wanted ha hg)]
  refine ⟨fun _ _ => trivial, ?_⟩
  show Oper.uponIn _ 0 _ _ a _ _ ((Oper.semAt none a.eval _).run F.P w')
  rw [Oper.semAt_none, h w' (.same hw) a.eval (fun x u hx => ha.ev hx) _ rfl]
  exact hK _ _ (next w' hw _ (ha.put hd v))
theorem OI.yield {c : Operand} {l : Nat} {xs : List Operand} {ats : Array TypeId} {vs : List Value} {Post : Bool → World → Prop} (hd : Nat.blt d F.n = true) (hg : gd e all g = some true)
    (hf : look e c = some (.func (.yield l) #[] #[])) (hx : xs.mapM (look e) = some vs)
    (hc : ∀ w', Same w w' → YieldAt Fence.wide 0 F.P l vs.toArray w' (fun en w3 => ∃ b w2, Same w2 w3 ∧ en = .returned (.bool b) ∧ Post b w2))
    (next : ∀ b w2, Post b w2 → OI F ((d, .bool b) :: e) all rest k w2) :
    OI F e all (⟨some d, .call { callee := .value c, args := xs.toArray, argTypes := ats }, ty, pos, af, g⟩ :: rest) k w := by
  intro w' hw a ha
  refine wpListIn_step fun K hK => ?_
  rw [if_pos (gd_wanted ha hg)]
  refine ⟨fun _ _ => trivial, ?_⟩
  show Oper.uponIn _ 0 _ _ a _ _ ((Oper.semAt none a.eval _).run F.P w')
  rw [Oper.semAt_none]
  obtain ⟨fn, tmps, asg, body, hy, hR⟩ := hc w' hw
  have h1 := ha.ev hf
  have h2 := look_args (fun x u hx => ha.ev hx) xs vs hx
  have hr : (execOp a.eval ⟨some d, .call { callee := .value c, args := xs.toArray, argTypes := ats }, ty, pos, af, g⟩).run F.P w' = (Instr.yield l vs.toArray).run F.P w' := by
    simp [execOp, resolve, Deferred.ofValue, h1, h2, invoke, Sem.run_bind]
  rw [hr, hy, Oper.uponIn_round]
  refine ⟨(fun h => by cases h), hR.mono ?_⟩
  rintro en w3 ⟨b, w2, hs, rfl, hp⟩
  exact hK _ _ (next b w2 hp w3 hs _ (ha.put hd (.bool b)))
end
def recOf (fn : FuncId) (tmps : Array Value) (ps : Array Tmp) (assign body : Code) (D : Nat) (st : LoopState) : Obj := .loop { state := st, pending := none, fn, tmps, params := ps, assign, body, defers := D }
def Between (fn : FuncId) (tmps : Array Value) (ps : Array Tmp) (assign body : Code) (D : Nat) (J : World → Prop) (W : World) : Prop :=
  ∃ W0, Same W0 W ∧ W0.heap[D + 1]? = some (recOf fn tmps ps assign body D .ready) ∧ W0.heap[D]? = some (.deferred (some [])) ∧ J W0
theorem Same.putObj {w w' : World} (h : Same w w') (r : Nat) (o : Obj) : Same (w.putObj r o) (w'.putObj r o) := ⟨by simp [World.putObj, h.heap], h.os, h.tape, h.output⟩
theorem Same.at {w w' : World} (h : Same w w') (k : Nat) : w'.heap[k]? = w.heap[k]? := by rw [h.heap]
theorem Ext.putObj {S : Nat → Prop} (w : World) {r : Nat} (hr : S r) (o : Obj) : Ext S w (w.putObj r o) :=
  ⟨rfl, rfl, rfl, by simp, fun k hk hs => World.putObj_heap_other (fun e => hs (e ▸ hr))⟩
theorem yield_round {F : Fence} {P : Program} {fn : FuncId} {tmps : Array Value} {ps : Array Tmp} {assign body : Code} {D : Nat} {args : Array Value} {J J' : World → Prop} {W : World}
    (hF : F = Fence.wide) (hb : Between fn tmps ps assign body D J W) (hs : args.size = ps.size)
    (hbody : ∀ W0 W', Same W0 W' → W0.heap[D + 1]? = some (recOf fn tmps ps assign body D .ready) → W0.heap[D]? = some (.deferred (some [])) → J W0 →
      assign.wpIn (Fence.wide.inRound (D + 1)) 0 P (Exit.then (fun a₁ w₁ => Same W0 w₁ ∧ ∀ W2, Same (W0.putObj (D + 1) (recOf fn tmps ps assign body D .busy)) W2 →
        body.wpIn (Fence.wide.inRound (D + 1)) 0 P (fun ex _ w3 => ex = .normal ∧ ∃ W3, Same W3 w3 ∧ W3.heap[D + 1]? = some (recOf fn tmps ps assign body D .busy) ∧ W3.heap[D]? = some (.deferred (some [])) ∧ J' (W3.putObj (D + 1) (recOf fn tmps ps assign body D .ready))) a₁ W2) (fun _ _ _ => False))
        { tmps := (ps.zip args).foldl (fun t (p, v) => t.setIfInBounds p v) tmps, defers := [] } W') :
    YieldAt Fence.wide 0 P (D + 1) args W (fun en w3 => en = .returned (.bool true) ∧ Between fn tmps ps assign body D J' w3) := by
  obtain ⟨W0, hW, hl, hk, hJ⟩ := hb
  have hl' : W.heap[D + 1]? = some (recOf fn tmps ps assign body D .ready) := (hW.at _).trans hl
  refine ⟨fn, _, assign, body, run_yield (P := P) hl' hs, roundIn_of_wpIn trivial (wpIn_mono (hbody W0 W hW hl hk hJ) ?_)⟩
  rintro ex a₁ w₁ hq
  cases ex with
  | normal =>
    obtain ⟨hs1, hq⟩ := hq
    refine ⟨_, run_beginRound ((hs1.at _).trans hl) rfl, wpIn_mono (hq _ (hs1.putObj _ _)) ?_⟩
    rintro ex a3 w3 ⟨rfl, W3, hs3, hl3, hk3, hJ3⟩
    have hl3' : w3.heap[D + 1]? = some (recOf fn tmps ps assign body D .busy) := (hs3.at _).trans hl3
    refine ⟨_, _, run_endRound none hl3', rfl, _, hs3.putObj _ _, World.putObj_heap_same (Array.getElem?_eq_some_iff.1 hl3).1, (World.putObj_heap_other (by omega)).trans hk3, hJ3⟩
  | exit _ => exact hq.elim
  | goto _ => exact hq.elim
  | ret => exact hq.elim
  | panic _ => exact hq.elim
  | outgrown => exact hq.elim
theorem Between.blk {fn : FuncId} {tmps : Array Value} {ps : Array Tmp} {assign body : Code} {D : Nat} {J : World → Prop} {W : World} {b : Nat} {E : TypeId} {cs : List Value} (h : Between fn tmps ps assign body D J W) (hJ : ∀ W, J W → Blk W b E cs) : Blk W b E cs := by
  obtain ⟨W0, hs, _, _, h0⟩ := h
  exact (hJ W0 h0).keep (by rw [hs.heap])
theorem Between.same {fn : FuncId} {tmps : Array Value} {ps : Array Tmp} {assign body : Code} {D : Nat} {J : World → Prop} {W W' : World} (h : Between fn tmps ps assign body D J W) (hs : Same W W') : Between fn tmps ps assign body D J W' := by
  obtain ⟨W0, hs0, h1, h2, h3⟩ := h
  exact ⟨W0, hs0.trans hs, h1, h2, h3⟩
theorem yield_mix {P : Program} {n D p : Nat} {e : Env} {fn : FuncId} {tmps : Array Value} {v : Value} {i1 i2 bid : Nat} {ops1 ops2 : List Oper} {J J' : World → Prop} {W : World} (hag : Ag ⟨n, []⟩ e ⟨tmps, []⟩) (hp : Nat.blt p n = true)
    (hb : Between fn tmps #[p] (.region i1 ops1.toArray false) (.block bid (.region i2 ops2.toArray true)) D J W)
    (hm : P.follows .mixedOrders = true) (al : List Nat) (hB : Region.lexB .any ops2.toArray = true) (hA : actB .any ops2.toArray (fun j => al.contains j) = true) (hd1 : noDefer ops1 = true) (hd2 : noDefer ops2 = true) (S : World → Nat → Prop) {e1 : Env}
    (h1 : ∀ W0 R, A ⟨P, ⟨n, []⟩, R⟩ e1 [] W0 → O ⟨P, ⟨n, []⟩, R⟩ ((p, v) :: e) ops1 ops1 [] W0)
    (h2 : ∀ W0 W1 R, W0.heap[D + 1]? = some (recOf fn tmps #[p] (.region i1 ops1.toArray false) (.block bid (.region i2 ops2.toArray true)) D .ready) → W0.heap[D]? = some (.deferred (some [])) → J W0 → W1 = W0.putObj (D + 1) (recOf fn tmps #[p] (.region i1 ops1.toArray false) (.block bid (.region i2 ops2.toArray true)) D .busy) →
      W1.heap[D + 1]? = some (recOf fn tmps #[p] (.region i1 ops1.toArray false) (.block bid (.region i2 ops2.toArray true)) D .busy) → W1.heap[D]? = some (.deferred (some [])) →
      (∀ e2 W3, W3.heap[D + 1]? = some (recOf fn tmps #[p] (.region i1 ops1.toArray false) (.block bid (.region i2 ops2.toArray true)) D .busy) → W3.heap[D]? = some (.deferred (some [])) → J' (W3.putObj (D + 1) (recOf fn tmps #[p] (.region i1 ops1.toArray false) (.block bid (.region i2 ops2.toArray true)) D .ready)) → A ⟨P, ⟨n, []⟩, R⟩ e2 [] W3) →
      M ⟨P, ⟨n, []⟩, R⟩ (S W1) W1 al e1 ops2 0 ops2 [] W1) :
    YieldAt Fence.wide 0 P (D + 1) #[v] W (fun en w3 => en = .returned (.bool true) ∧ Between fn tmps #[p] (.region i1 ops1.toArray false) (.block bid (.region i2 ops2.toArray true)) D J' w3) := by
  refine yield_round rfl hb rfl ?_
  intro W0 W' hs hl hk hJ
  have hag2 : Ag ⟨n, []⟩ ((p, v) :: e) ⟨(#[p].zip #[v]).foldl (fun t (q : Nat × Value) => t.setIfInBounds q.1 q.2) tmps, []⟩ := by
    have := hag.put hp v
    simpa [Act.put] using this
  refine roundRegion (F := ⟨P, ⟨n, []⟩, _⟩) (e := (p, v) :: e) (w := W0) ?_ hd1 (h1 W0 _ ?_) hs hag2
  · rintro ⟨a, w, h⟩; exact h
  intro w1 hs1 a1 ha1
  refine ⟨hs1, fun W2 hs2 => ?_⟩
  have hlt : D + 1 < W0.heap.size := (Array.getElem?_eq_some_iff.1 hl).1
  refine wpIn_block (roundMix (F := ⟨P, ⟨n, []⟩, _⟩) (e := e1) (w := W0.putObj (D + 1) (recOf fn tmps #[p] (.region i1 ops1.toArray false) (.block bid (.region i2 ops2.toArray true)) D .busy)) (S _) al hm hB hA ?_ hd2 (h2 W0 _ _ hl hk hJ rfl (World.putObj_heap_same hlt) ((World.putObj_heap_other (by omega)).trans hk) ?_) hs2 ha1)
  · rintro ⟨a, w, h⟩
    have h : (Exit.outgrown : Exit) = .normal ∧ _ := h
    cases h.1
  · intro e2 W3 hl3 hk3 hJ3 w3 hs3 a3 ha3
    exact ⟨rfl, W3, hs3, hl3, hk3, hJ3⟩
theorem G.rangeFunc {F : Fr} {e : Env} {k : List It} {w : World} {gf : Nat} {lb : List Value} {c : Operand} {ps : Array Tmp} {assign body : Code} {Jn : World → Prop}
    (hg : look e c = some (.func (.func gf) #[] lb.toArray)) (eg : ∀ args w, (callFunc gf args).run F.P w = .ok (.enter gf args) w)
    (hc : ∀ fn tmps, Ag F.z e ⟨tmps, F.z.D⟩ → ∀ w', Same ((w.alloc (.deferred (some []))).alloc (recOf fn tmps ps assign body w.heap.size .ready)) w' →
      Calls F.P gf (.func (.yield (w.heap.size + 1)) #[] #[] :: lb).toArray w' (fun en w3 => (∃ v, en = .returned v) ∧ Between fn tmps ps assign body w.heap.size Jn w3))
    (next : ∀ fn tmps W, Jn W → W.heap[w.heap.size]? = some (.deferred (some [])) → w.heap.size + 1 < W.heap.size →
      A (F.off ⟨.collected w.heap.size, #[]⟩) e k (W.putObj (w.heap.size + 1) (recOf fn tmps ps assign body w.heap.size .exhausted))) :
    G F e (.rangeFunc c ps assign body) k w := by
  intro w' hw a ha
  refine (wpIn_wide (n := 0)).1 (wpIn_rangeFunc ?_)
  intro fn _
  have hsz : w'.heap.size = w.heap.size := by rw [hw.heap]
  refine ⟨w'.heap.size + 1, _, ((w'.alloc (.deferred (some []))).alloc (recOf fn a.tmps ps assign body w'.heap.size .ready)), ⟨.fn (.func gf) lb.toArray, #[.func (.yield (w'.heap.size + 1)) #[] #[]]⟩, ((w'.alloc (.deferred (some []))).alloc (recOf fn a.tmps ps assign body w'.heap.size .ready)), gf, (.func (.yield (w'.heap.size + 1)) #[] #[] :: lb).toArray, ((w'.alloc (.deferred (some []))).alloc (recOf fn a.tmps ps assign body w'.heap.size .ready)), run_enterLoop_outer _ _ _ _ _, ?_, fun _ _ => trivial, ?_, (fun h => by cases h), ?_⟩
  · have h1 := ha.ev hg
    simp only [resolve, rangeCall, h1, Deferred.ofValue]
    simp [Act.eval]
  · have := eg (.func (.yield (w'.heap.size + 1)) #[] #[] :: lb).toArray
    simpa [invoke] using this _
  · rw [hsz]
    refine callsIn_wide.2 ((hc fn a.tmps ⟨rfl, ha.2.1, ha.2.2⟩ _ ?_).mono ?_)
    · exact (hw.alloc _).alloc _
    · rintro en w3 ⟨⟨v, rfl⟩, W0, hs, hl, hk, hJ⟩
      have hl' : w3.heap[w.heap.size + 1]? = some (recOf fn a.tmps ps assign body w.heap.size .ready) := (hs.at _).trans hl
      refine ⟨none, _, run_endLoop hl' (by intro h; cases h), ?_⟩
      have := next fn a.tmps W0 hJ hk (Array.getElem?_eq_some_iff.1 hl).1 _ (hs.putObj _ _) { a with defers := ⟨.collected w.heap.size, #[]⟩ :: a.defers } ⟨by show _ :: a.defers = _; rw [ha.1]; rfl, ha.2.1, ha.2.2⟩
      rw [post_off] at this
      exact this
def markPost (P : Program) (fn : Func) (Post : Value → World → Prop) : Exit → Act → World → Prop := bodyPostM Fence.wide 0 P fn (Ret Post)
theorem Fn.enterM {P : Program} {f : FuncId} {fn : Func} {c : Code} {args : List Value} {w : World} {Post : Value → World → Prop}
    (hc : ∀ w', (callFunc f args.toArray).run P w' = .ok (.enter f args.toArray) w') (hf : P.funcs[f]? = some fn) (hb : fn.body = some c)
    (h : G ⟨P, ⟨fn.ntmps, []⟩, markPost P fn Post⟩ (argEnv 0 args) c [] w) : Fn P f args w Post := by
  refine ⟨hc, fun w' hw => (callsIn_wide (n := 0)).1 (callsIn_of_wp_marks hf hb trivial ((wpIn_wide (n := 0)).2 (h w' hw _ ⟨rfl, ?_, ?_⟩)))⟩
  · simp; omega
  · intro t v ht
    obtain ⟨_, h2⟩ := argEnv_get args 0 t v ht
    simp only [Nat.sub_zero] at h2
    have hlt : t < args.length := (List.getElem?_eq_some_iff.1 h2).1
    rw [Array.getD_eq_getD_getElem?, Array.getElem?_append_left (by simpa using hlt)]
    simp [h2]
theorem G.retM0 {P : Program} {fn : Func} {n : Nat} {Post : Value → World → Prop} {e : Env} {k : List It} {w : World} {vs : List Value}
    (hv : ResEv P e w fn.results.toList vs) (hp : Post (outV vs) w) : G ⟨P, ⟨n, []⟩, markPost P fn Post⟩ e .ret k w := by
  intro w' hw a ha
  refine wp_ret (post_ret k a w' ?_)
  show LeavesInM Fence.wide 0 P fn a.tmps (Ret Post) a.defers .returning w'
  rw [ha.1]
  exact ⟨_, results_ev hw ha hv, _, w, hw, rfl, hp⟩
theorem G.retM {P : Program} {fn : Func} {n D : Nat} {Post : Value → World → Prop} {e : Env} {k : List It} {w : World} {vs : List Value}
    (hD : w.heap[D]? = some (.deferred (some []))) (hv : ResEv P e (w.putObj D (.deferred none)) fn.results.toList vs) (hp : Post (outV vs) (w.putObj D (.deferred none))) : G ⟨P, ⟨n, [⟨.collected D, #[]⟩]⟩, markPost P fn Post⟩ e .ret k w := by
  intro w' hw a ha
  refine wp_ret (post_ret k a w' ?_)
  show LeavesInM Fence.wide 0 P fn a.tmps (Ret Post) a.defers .returning w'
  rw [ha.1]
  refine ⟨(fun h => by cases h), .inl ⟨D, _, rfl, run_takeDeferred ((hw.at D).trans hD), ?_⟩⟩
  exact ⟨_, results_ev (hw.putObj D _) ha hv, _, _, hw.putObj D _, rfl, hp⟩
end Go.Proofs.YthliepcjfnjnoaaGreatDoor
namespace Go.Proofs.YthliepcjfnjnoaaGreatDoor
open Go
section
variable {P : Program} {e : Env} {w : World} {x y : Operand} {T T' tp : TypeId} {v u : Value}
def ifaceD : TypeDesc → Bool
  | .interface _ => true
  | _ => false
theorem Ev.mkIface {d : TypeDesc} (hx : look e x = some v) (hT : P.underlying T = some d) (hd : ifaceD d = false) : Ev P e (.makeInterface T x) w (.iface T v) :=
  fun w' _ ρ hρ o ho => by
    have h1 := hρ _ _ hx
    cases d <;> first | (cases hd; done) | simp [execOp, ho, h1, Instr.makeInterface, run_underlying hT]
theorem run_equal_nil {ms : Array (String × TypeId)} (hT : P.underlying T = some (.interface ms)) (w : World) : (Op.equal T .nilIface .nilIface).run P w = .ok true w := by
  have h : ∀ d : Nat, (Op.equalIn (d + 1) T .nilIface .nilIface).run P w = .ok true w := fun d => by simp [Op.equalIn, run_underlying hT]
  simp [Op.equal, Op.maxDepth, h 9999]
theorem run_equal_iface_nil {ms : Array (String × TypeId)} (hT : P.underlying T = some (.interface ms)) (w : World) : (Op.equal T (.iface tp u) .nilIface).run P w = .ok false w := by
  have h : ∀ d : Nat, (Op.equalIn (d + 1) T (.iface tp u) .nilIface).run P w = .ok false w := fun d => by simp [Op.equalIn, run_underlying hT]
  simp [Op.equal, Op.maxDepth, h 9999]
theorem Ev.neNilN {ms : Array (String × TypeId)} (hx : look e x = some .nilIface) (hT : P.underlying T = some (.interface ms)) : Ev P e (.binOp .neq T x (.const .nilIface) T') w (.bool false) :=
  fun w' _ ρ hρ o ho => by
    have h1 := hρ _ _ hx
    have h2 : ρ (.const .nilIface) = .nilIface := hρ _ _ rfl
    simp [execOp, ho, h1, h2, eqGuard, binOp, run_equal_nil hT, Sem.run_bind]
theorem Ev.neNilS {ms : Array (String × TypeId)} (hx : look e x = some (.iface tp u)) (hT : P.underlying T = some (.interface ms)) : Ev P e (.binOp .neq T x (.const .nilIface) T') w (.bool true) :=
  fun w' _ ρ hρ o ho => by
    have h1 := hρ _ _ hx
    have h2 : ρ (.const .nilIface) = .nilIface := hρ _ _ rfl
    simp [execOp, ho, h1, h2, eqGuard, binOp, run_equal_iface_nil hT, Sem.run_bind]
end
end Go.Proofs.YthliepcjfnjnoaaGreatDoor
namespace Go.Proofs.YthliepcjfnjnoaaGreatDoor
open Go Go.RowKit Go.Extern.Stop Go.Stop Go.Extern
theorem as_nil (t : Value) (w : World) :
    Calls Tryz.prog 90 #[.nilIface, t] w fun e w' => e = .returned (.bool false) ∧ w' = w := by
  go_enter Tryz.func90, Tryz.ntmps90
  go_wp2
  go_ret
  exact ⟨rfl, rfl⟩
theorem as_valueOf27 (t : Addr) (w : World) : (ReflectliteValue.unpack (.iface 201 (.pointer (some t)))).run Tryz.prog w
    = .ok (.agg #[.pointer (some ⟨9, 201, none⟩), .pointer (some ⟨w.heap.size, 0, none⟩), .int .u64 150]) (w.alloc (.cells #[.pointer (some t)] 201)) := by kernel_rfl
theorem as_type27 (a : Addr) (w : World) : (ReflectliteValue.methodAny (ReflectliteValue.valueError "reflectlite.Value.Type" 0) (fun t _ _ _ => ReflectliteType.toType t) #[.agg #[.pointer (some ⟨9, 201, none⟩), .pointer (some a), .int .u64 150]]).run Tryz.prog w
    = .ok (.iface 214 (.agg #[.pointer (some ⟨9, 201, none⟩)])) w := by kernel_rfl
theorem as_methodKind (h : Value) (w : World) : (Go.method 519 214 (.agg #[h]) "Kind").run Tryz.prog w = .ok (295, h) w := by kernel_rfl
theorem as_kind27 (w : World) : ((ReflectliteType.abiMethod fun t => (fun a : Nat => Value.int IntKind.u8 (a : Int)) <$> Rtype.kind t) #[.pointer (some ⟨9, 201, none⟩)]).run Tryz.prog w = .ok (.int .u8 22) w := by kernel_rfl
theorem as_kind25 (w : World) : ((ReflectliteType.abiMethod fun t => (fun a : Nat => Value.int IntKind.u8 (a : Int)) <$> Rtype.kind t) #[.pointer (some ⟨9, 200, none⟩)]).run Tryz.prog w = .ok (.int .u8 22) w := by kernel_rfl
theorem rlm (z : Sem Value) (f : TypeId → Addr → Nat → Nat → Sem Value) (v : Value) :
    ReflectliteValue.method z f #[v] = (do match ← ReflectliteValue.parts v with | none => z | some (t, a, fl) => f t a fl (fl % 32)) := rfl
theorem as_parts27 (a : Addr) (w : World) : (ReflectliteValue.parts (.agg #[.pointer (some ⟨9, 201, none⟩), .pointer (some a), .int .u64 150])).run Tryz.prog w = .ok (some (201, a, 150)) w := by kernel_rfl
theorem as_isNil27 (a p : Addr) (W : World) (ha : W.cell? a = some (.pointer (some p))) :
    (ReflectliteValue.method (ReflectliteValue.valueError "reflectlite.Value.IsNil" 0) ReflectliteValue.isNil #[.agg #[.pointer (some ⟨9, 201, none⟩), .pointer (some a), .int .u64 150]]).run Tryz.prog W = .ok (.bool false) W := by
  rw [rlm]
  simp only [Sem.run_bind, as_parts27, Result.andThen]
  simp [ReflectliteValue.isNil, loadVar, isAgg, underlying, Tryz.underlying201, ha, Result.andThen]
theorem as_methodElem (h : Value) (w : World) : (Go.method 519 214 (.agg #[h]) "Elem").run Tryz.prog w = .ok (310, .agg #[h]) w := by kernel_rfl
theorem as_methodImplements (h : Value) (w : World) : (Go.method 519 214 (.agg #[h]) "Implements").run Tryz.prog w = .ok (311, .agg #[h]) w := by kernel_rfl
theorem as_methodAssignableTo (h : Value) (w : World) : (Go.method 519 214 (.agg #[h]) "AssignableTo").run Tryz.prog w = .ok (308, .agg #[h]) w := by kernel_rfl
theorem as_elem27 (w : World) : (ReflectliteType.method ReflectliteType.elem #[.agg #[.pointer (some ⟨9, 201, none⟩)]]).run Tryz.prog w = .ok (.iface 214 (.agg #[.pointer (some ⟨9, 200, none⟩)])) w := by kernel_rfl
theorem as_implements25 (w : World) : (ReflectliteType.relation "Implements" ReflectliteType.implements_ #[.agg #[.pointer (some ⟨9, 200, none⟩)], .iface 214 (.agg #[.pointer (some ⟨9, 113, none⟩)])]).run Tryz.prog w = .ok (.bool true) w := by kernel_rfl
theorem as_typeOf25 (v : Value) (w : World) : (ReflectliteType.typeOf #[.iface 200 v]).run Tryz.prog w = .ok (.iface 214 (.agg #[.pointer (some ⟨9, 200, none⟩)])) w := by kernel_rfl
theorem as_assignable25 (w : World) : (ReflectliteType.relation "AssignableTo" ReflectliteType.assignableTo #[.agg #[.pointer (some ⟨9, 200, none⟩)], .iface 214 (.agg #[.pointer (some ⟨9, 200, none⟩)])]).run Tryz.prog w = .ok (.bool true) w := by kernel_rfl
theorem as_valueOf25 (e : Addr) (w : World) : (ReflectliteValue.unpack (.iface 200 (.pointer (some e)))).run Tryz.prog w
    = .ok (.agg #[.pointer (some ⟨9, 200, none⟩), .pointer (some ⟨w.heap.size, 0, none⟩), .int .u64 150]) (w.alloc (.cells #[.pointer (some e)] 200)) := by kernel_rfl
theorem as_elemOf27 (w : World) : (Rtype.elem? 201).run Tryz.prog w = .ok (some 200) w := by kernel_rfl
theorem as_mk25 (p : Addr) (w : World) : (ReflectliteValue.mk 200 p ReflectliteValue.flagAddr).run Tryz.prog w = .ok (.agg #[.pointer (some ⟨9, 200, none⟩), .pointer (some p), .int .u64 406]) w := by kernel_rfl
theorem as_elemV27 (a p : Addr) (W : World) (ha : W.cell? a = some (.pointer (some p))) :
    (ReflectliteValue.method (ReflectliteValue.valueError "reflectlite.Value.Elem" 0) ReflectliteValue.elem #[.agg #[.pointer (some ⟨9, 201, none⟩), .pointer (some a), .int .u64 150]]).run Tryz.prog W
      = .ok (.agg #[.pointer (some ⟨9, 200, none⟩), .pointer (some p), .int .u64 406]) W := by
  rw [rlm]
  simp only [Sem.run_bind, as_parts27, Result.andThen]
  simp [ReflectliteValue.elem, loadVar, isAgg, underlying, Tryz.underlying201, ha, Result.andThen, as_elemOf27, as_mk25]
theorem rls (v x : Value) : ReflectliteValue.set #[v, x] = (do
    let (some (dst, a, fl), some (src, b, _)) := (← ReflectliteValue.parts v, ← ReflectliteValue.parts x)
      | unsupported (.noEntry "extern/(internal/reflectlite.Value).Set.zeroValue")
    if fl / ReflectliteValue.flagAddr % 2 == 0 then unsupported (.noEntry "extern/(internal/reflectlite.Value).Set.unaddressable")
    let val ← loadVar src b
    if ← Rtype.directlyAssignable dst src then storeVar dst a val
    else if ← Rtype.implements dst src then
      if (← Rtype.kind src) == 20 then
        match val with
        | .nilIface => unsupported (.noEntry "extern/reflectlite: a nil value of one interface type handed on as a value of another")
        | _ => storeVar dst a val
      else storeVar dst a (.iface src val)
    else panicString ("reflectlite.Set: value of type " ++ (← Rtype.spelt src) ++ " is not assignable to type " ++ (← Rtype.spelt dst))
    pure (.tuple #[])) := rfl
theorem as_parts25a (a : Addr) (w : World) : (ReflectliteValue.parts (.agg #[.pointer (some ⟨9, 200, none⟩), .pointer (some a), .int .u64 406])).run Tryz.prog w = .ok (some (200, a, 406)) w := by kernel_rfl
theorem as_parts25 (a : Addr) (w : World) : (ReflectliteValue.parts (.agg #[.pointer (some ⟨9, 200, none⟩), .pointer (some a), .int .u64 150])).run Tryz.prog w = .ok (some (200, a, 150)) w := by kernel_rfl
theorem as_direct25 (w : World) : (Rtype.directlyAssignable 200 200).run Tryz.prog w = .ok true w := by kernel_rfl
theorem as_set25 (ta b e : Addr) (old : Value) (W : World) (hb : W.cell? b = some (.pointer (some e))) (ht : W.cell? ta = some old) (hf : W.frozen? ta = false) :
    (ReflectliteValue.set #[.agg #[.pointer (some ⟨9, 200, none⟩), .pointer (some ta), .int .u64 406], .agg #[.pointer (some ⟨9, 200, none⟩), .pointer (some b), .int .u64 150]]).run Tryz.prog W
      = .ok (.tuple #[]) (W.setCell ta (.pointer (some e))) := by
  rw [rls]
  simp only [Sem.run_bind, as_parts25a, as_parts25, Result.andThen]
  simp [ReflectliteValue.flagAddr, loadVar, isAgg, underlying, Tryz.underlying200, hb, Result.andThen, as_direct25, storeVar, Value.cells, storeCells, Addr.add]
  rw [run_store Tryz.prog W ta _ _ (by rfl)]
  simp [ht, hf]
set_option maxHeartbeats 4000000 in
theorem as_hit (e t : Addr) (old : Value) (w : World) (hg : w.cell? ⟨0, 0, none⟩ = some (.iface 214 (.agg #[.pointer (some ⟨9, 113, none⟩)]))) (ht0 : w.cell? t = some old) (hf0 : w.frozen? t = false) :
    Calls Tryz.prog 90 #[.iface 200 (.pointer (some e)), .iface 201 (.pointer (some t))] w fun ev w' => ev = .returned (.bool true) ∧ w' = ((((w.alloc (.cells #[.pointer (some t)] 201)).alloc (.cells #[.pointer (some ⟨9, 201, none⟩), .pointer (some ⟨w.heap.size, 0, none⟩), .int .u64 150] 243)).alloc (.cells #[.pointer (some ⟨9, 201, none⟩), .pointer (some ⟨w.heap.size, 0, none⟩), .int .u64 150] 243)).alloc (.cells #[.pointer (some e)] 200)).setCell t (.pointer (some e)) := by
  have h6 := @run_callFunc_extern Tryz.prog 136 _ (fun args => ReflectliteValue.unpack (args.getD 0 (.tuple #[]))) Tryz.func136 (by kernel_rfl) (by kernel_rfl) (by kernel_rfl) (by kernel_rfl)
  have h7 := @run_callFunc_extern Tryz.prog 137 _ (ReflectliteValue.methodAny (ReflectliteValue.valueError "reflectlite.Value.Type" 0) (fun t _ _ _ => ReflectliteType.toType t)) Tryz.func137 (by kernel_rfl) (by kernel_rfl) (by kernel_rfl) (by kernel_rfl)
  have h8 := @run_callFunc_extern Tryz.prog 138 _ (ReflectliteValue.method (ReflectliteValue.valueError "reflectlite.Value.IsNil" 0) ReflectliteValue.isNil) Tryz.func138 (by kernel_rfl) (by kernel_rfl) (by kernel_rfl) (by kernel_rfl)
  have h27 := @run_callFunc_extern Tryz.prog 295 _ (ReflectliteType.abiMethod fun t => do pure (.int .u8 (← Rtype.kind t))) Tryz.func295 (by kernel_rfl) (by kernel_rfl) (by kernel_rfl) (by kernel_rfl)
  have h37 := @run_callFunc_extern Tryz.prog 310 _ (ReflectliteType.method ReflectliteType.elem) Tryz.func310 (by kernel_rfl) (by kernel_rfl) (by kernel_rfl) (by kernel_rfl)
  have h38 := @run_callFunc_extern Tryz.prog 311 _ (ReflectliteType.relation "Implements" ReflectliteType.implements_) Tryz.func311 (by kernel_rfl) (by kernel_rfl) (by kernel_rfl) (by kernel_rfl)
  have h10 := @run_callFunc_extern Tryz.prog 86 _ ReflectliteType.typeOf Tryz.func86 (by kernel_rfl) (by kernel_rfl) (by kernel_rfl) (by kernel_rfl)
  have h35 := @run_callFunc_extern Tryz.prog 308 _ (ReflectliteType.relation "AssignableTo" ReflectliteType.assignableTo) Tryz.func308 (by kernel_rfl) (by kernel_rfl) (by kernel_rfl) (by kernel_rfl)
  have h11 := @run_callFunc_extern Tryz.prog 180 _ (ReflectliteValue.method (ReflectliteValue.valueError "reflectlite.Value.Elem" 0) ReflectliteValue.elem) Tryz.func180 (by kernel_rfl) (by kernel_rfl) (by kernel_rfl) (by kernel_rfl)
  have h12 := @run_callFunc_extern Tryz.prog 181 _ ReflectliteValue.set Tryz.func181 (by kernel_rfl) (by kernel_rfl) (by kernel_rfl) (by kernel_rfl)
  have tO := as_typeOf25
  have mA := as_methodAssignableTo
  have a25 := as_assignable25
  have v25 := as_valueOf25
  have f6 := as_valueOf27
  have f7 := as_type27
  have mK := as_methodKind
  have mE := as_methodElem
  have mI := as_methodImplements
  have k27 := as_kind27
  have k25 := as_kind25
  have e27 := as_elem27
  have i25 := as_implements25
  have n8 := as_isNil27 ⟨w.heap.size, 0, none⟩ t ((w.alloc (.cells #[.pointer (some t)] 201)).alloc (.cells #[.pointer (some ⟨9, 201, none⟩), .pointer (some ⟨w.heap.size, 0, none⟩), .int .u64 150] 243)) (by simp)
  have hlt : 0 < w.heap.size := by
    rcases Nat.eq_zero_or_pos w.heap.size with h0 | h
    · simp [World.cell?, h0] at hg
    · exact h
  have hg2 : ((w.alloc (.cells #[.pointer (some t)] 201)).alloc (.cells #[.pointer (some ⟨9, 201, none⟩), .pointer (some ⟨w.heap.size, 0, none⟩), .int .u64 150] 243)).cell? ⟨0, 0, none⟩ = some (.iface 214 (.agg #[.pointer (some ⟨9, 113, none⟩)])) := by
    rw [World.cell?_alloc_lt _ _ ⟨0, 0, none⟩ (by simp), World.cell?_alloc_lt _ _ ⟨0, 0, none⟩ hlt]; exact hg
  have htl : t.block < w.heap.size := by
    rcases Nat.lt_or_ge t.block w.heap.size with h | h
    · exact h
    · simp [World.cell?, Array.getElem?_eq_none h] at ht0
  have el := as_elemV27 ⟨w.heap.size, 0, none⟩ t (((w.alloc (.cells #[.pointer (some t)] 201)).alloc (.cells #[.pointer (some ⟨9, 201, none⟩), .pointer (some ⟨w.heap.size, 0, none⟩), .int .u64 150] 243)).alloc (.cells #[.pointer (some ⟨9, 201, none⟩), .pointer (some ⟨w.heap.size, 0, none⟩), .int .u64 150] 243)) (by rw [World.cell?_alloc_lt _ _ ⟨w.heap.size, 0, none⟩ (by simp; omega)]; simp)
  have st := as_set25 t ⟨w.heap.size + 1 + 1 + 1, 0, none⟩ e old ((((w.alloc (.cells #[.pointer (some t)] 201)).alloc (.cells #[.pointer (some ⟨9, 201, none⟩), .pointer (some ⟨w.heap.size, 0, none⟩), .int .u64 150] 243)).alloc (.cells #[.pointer (some ⟨9, 201, none⟩), .pointer (some ⟨w.heap.size, 0, none⟩), .int .u64 150] 243)).alloc (.cells #[.pointer (some e)] 200))
    (by rw [World.cell?_alloc_at _ _ _ _ (by simp)]; rfl)
    (by rw [World.cell?_alloc_lt _ _ t (by simp; omega), World.cell?_alloc_lt _ _ t (by simp; omega), World.cell?_alloc_lt _ _ t (by simp; omega), World.cell?_alloc_lt _ _ t htl]; exact ht0)
    (by rw [World.frozen?_alloc_old _ _ t (by simp; omega), World.frozen?_alloc_old _ _ t (by simp; omega), World.frozen?_alloc_old _ _ t (by simp; omega), World.frozen?_alloc_old _ _ t (Nat.ne_of_lt htl)]; exact hf0)
  go_enter Tryz.func90, Tryz.ntmps90
  go_wp2
  refine wp_loop_rounds 1 ?_
  rw [rounds_succ]
  go_wp2
  go_ret
  exact ⟨rfl, rfl⟩
end Go.Proofs.YthliepcjfnjnoaaGreatDoor
