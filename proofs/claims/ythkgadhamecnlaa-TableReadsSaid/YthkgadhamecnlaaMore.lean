
/-
  More operations: copy, make with spare room, arrays, shifts, conversions, least and greatest. No program in sight.
-/
import Derived.Test.YthkgadhamecnlaaApp
import Derived.Laws.IdiomCopy
set_option linter.unusedVariables false
set_option linter.unusedSimpArgs false
namespace Go.Proofs.Ythkgadhamecnlaa
open Go

section
variable {P : Program} {e : Env} {w : World} {x y z : Operand} {T T' E : TypeId} {v u : Value} {k : IntKind} {a b : Int}
theorem Ev.min2 {Ts : Array TypeId} (hx : look e x = some (.int k a)) (hy : look e y = some (.int k b)) : Ev P e (.call { callee := .builtin .min, args := #[x, y], argTypes := Ts }) w (.int k (min a b)) :=
  fun w' _ ρ hρ o ho => by
    have h : (if b < a then b else a) = min a b := by split <;> omega
    simp [execOp, ho, resolve, invoke, builtin, hρ _ _ hx, hρ _ _ hy, Builtin.min_, Builtin.min2, h]
theorem Ev.max2 {Ts : Array TypeId} (hx : look e x = some (.int k a)) (hy : look e y = some (.int k b)) : Ev P e (.call { callee := .builtin .max, args := #[x, y], argTypes := Ts }) w (.int k (max a b)) :=
  fun w' _ ρ hρ o ho => by
    have h : (if a < b then b else a) = max a b := by split <;> omega
    simp [execOp, ho, resolve, invoke, builtin, hρ _ _ hx, hρ _ _ hy, Builtin.max_, Builtin.max2, h]
/-- a slice of all of an array, of all of a slice -/
theorem Ev.cutA {c n s : Nat} {o : Nat} (hx : look e x = some (.pointer (some ⟨c, o, none⟩))) (hT : P.underlying T = some (.array n E)) (hs : sizeIs P E s) : Ev P e (.slice T x none none none) w (.slice (some ⟨c, o, none⟩) n n) :=
  fun w' hw ρ hρ op ho => by
    simp [execOp, ho, hρ _ _ hx, Instr.sliceAt, run_underlying hT, Instr.sureAddr, Instr.sliceBounds, hs.run, add_none]
theorem Ev.cutAll {c : Option Addr} {n cap s : Nat} (hx : look e x = some (.slice c n cap)) (hT : P.underlying T = some (.slice E)) (hs : sizeIs P E s) : Ev P e (.slice T x none none none) w (cutV s c cap 0 n) :=
  fun w' hw ρ hρ op ho => by
    simp [execOp, ho, hρ _ _ hx, Instr.sliceAt, Instr.slice, run_underlying hT, Instr.sliceBounds, hs.run, cutV]
theorem Ev.arrPtr {c : Option Addr} {n m cap : Nat} (hx : look e x = some (.slice c n cap)) (hT : P.underlying T = some (.array m E)) (h : m ≤ n) : Ev P e (.sliceToArrayPointer T x) w (.pointer c) :=
  fun w' hw ρ hρ op ho => by
    have h' : ¬ n < m := by omega
    simp [execOp, ho, hρ _ _ hx, Instr.arrayAt, run_underlying hT, h']
theorem Ev.idxA {cs : List Value} {n : Nat} {i : Int} {d : TypeDesc} (hx : look e x = some (.agg cs.toArray)) (hy : look e y = some (.int k i)) (hT : P.underlying T = some (.array n E)) (hE : P.underlying E = some d) (hd : aggD d = false) (hs : sizeIs P E 1) (hi : 0 ≤ i ∧ i < n) (hv : cs[i.toNat]? = some v) : Ev P e (.index T x y) w v :=
  fun w' hw ρ hρ op ho => by
    simp [execOp, ho, hρ _ _ hx, hρ _ _ hy, Instr.index, asIntOf, run_underlying hT, hi.1, hi.2, hs.run, part, isAgg_run hE, hd, hv]
theorem Ev.shrN (n : Nat) {k' : IntKind} (hx : look e x = some (.int k a)) (hy : look e y = some (.int k' (n : Int))) (hn : n ≤ k.bits) : Ev P e (.binOp .shr T x y T') w (.int k (a / 2 ^ n)) := .shrC n (2 ^ n) hx hy hn rfl
theorem Ev.shlK (n : Nat) {k' : IntKind} (hx : look e x = some (.int k a)) (hy : look e y = some (.int k' (n : Int))) (hn : n ≤ k.bits) (hr : k.wrap (a * 2 ^ n) = a * 2 ^ n) : Ev P e (.binOp .shl T x y T') w (.int k (a * 2 ^ n)) :=
  fun w' _ ρ hρ o ho => by
    have h1 : ¬ ((n : Int) < 0) := by omega
    have h5 : Op.shift .shl k a k' (n : Int) = Sem.pure (.int k (a * 2 ^ n)) := by
      unfold Op.shift
      rw [if_neg h1]
      simp only [Int.toNat_natCast, Nat.min_eq_left hn, hr]
      rfl
    simp [execOp, ho, hρ _ _ hx, hρ _ _ hy, eqGuard, binOp, h5]
theorem Ev.shlU (n : Nat) {k' : IntKind} (hx : look e x = some (.int .u64 a)) (hy : look e y = some (.int k' (n : Int))) (hn : n ≤ 64) (hr : 0 ≤ a * 2 ^ n ∧ a * 2 ^ n ≤ 18446744073709551615) : Ev P e (.binOp .shl T x y T') w (.int .u64 (a * 2 ^ n)) := .shlK n hx hy hn (IntWalk.u64_in _ hr)
theorem Ev.orU {p q : Nat} (hx : look e x = some (.int .u64 p)) (hy : look e y = some (.int .u64 q)) (hp : p < 18446744073709551616) (hq : q < 18446744073709551616) : Ev P e (.binOp .or T x y T') w (.int .u64 ((p ||| q : Nat) : Int)) :=
  fun w' _ ρ hρ o ho => by
    have h1 : Op.intBits .or .u64 (p : Int) (q : Int) = Sem.pure (.int .u64 ((p ||| q : Nat) : Int)) := by
      show Sem.pure (Value.int .u64 (IntKind.u64.wrap ((BitVec.ofInt 64 (p : Int) ||| BitVec.ofInt 64 (q : Int)).toNat))) = _
      have h2 : (BitVec.ofInt 64 (p : Int) ||| BitVec.ofInt 64 (q : Int)).toNat = p ||| q := by
        rw [BitVec.ofInt_natCast, BitVec.ofInt_natCast, BitVec.toNat_or, BitVec.toNat_ofNat, BitVec.toNat_ofNat, Nat.mod_eq_of_lt (by omega), Nat.mod_eq_of_lt (by omega)]
      have h3 : p ||| q < 2 ^ 64 := Nat.or_lt_two_pow (by omega) (by omega)
      rw [h2, IntWalk.u64_in _ (by omega)]
    simp [execOp, ho, hρ _ _ hx, hρ _ _ hy, eqGuard, binOp, h1]
theorem Ev.convB {d : TypeDesc} (hT : P.underlying T' = some (.int .u8)) (hS : P.underlying T = some d) (hx : look e x = some (.int k a)) (ha : 0 ≤ a) : Ev P e (.convert T T' x) w (u8 (UInt8.ofNat a.toNat)) :=
  (Ev.conv hT hS hx).cast (by rw [IntKind.wrap_u8]; simp; omega)
theorem Ev.convW {d : TypeDesc} (hT : P.underlying T' = some (.int .u32)) (hS : P.underlying T = some d) (hx : look e x = some (.int k a)) (ha : 0 ≤ a) : Ev P e (.convert T T' x) w (u32 (UInt32.ofNat a.toNat)) :=
  (Ev.conv hT hS hx).cast (by rw [IntKind.wrap_u32]; simp; omega)
theorem Ev.conv8_i {d : TypeDesc} {c : UInt8} (hT : P.underlying T' = some (.int .i64)) (hS : P.underlying T = some d) (hx : look e x = some (u8 c)) : Ev P e (.convert T T' x) w (i64 c.toNat) :=
  .convI hT hS hx (by have := c.toNat_lt; omega)
theorem Ev.conv8_U {d : TypeDesc} {c : UInt8} (hT : P.underlying T' = some (.int .u64)) (hS : P.underlying T = some d) (hx : look e x = some (u8 c)) : Ev P e (.convert T T' x) w (.int .u64 c.toNat) :=
  .convU hT hS hx (by have := c.toNat_lt; omega)
theorem Ev.conv32_U {d : TypeDesc} {c : UInt32} (hT : P.underlying T' = some (.int .u64)) (hS : P.underlying T = some d) (hx : look e x = some (u32 c)) : Ev P e (.convert T T' x) w (.int .u64 c.toNat) :=
  .convU hT hS hx (by have := c.toNat_lt; omega)

theorem DoV.makeCap {l n : Int} {k k' : IntKind} {ti : TypeInfo} {z0 : Value} {n1 n2 : Operand} (h1 : look e n1 = some (.int k l)) (h2 : look e n2 = some (.int k' n)) (hT : P.underlying T = some (.slice E)) (hE : P.info? E = some ti) (hz : ti.zero = some z0) (hs : ti.size = 1) (hc : z0.cells = #[z0]) {eb : Nat} (hby : ti.bytes = eb)
    (hn : 0 ≤ l ∧ l ≤ n ∧ (eb : Int) * n ≤ 281474976710656 ∧ n ≤ 9223372036854775807) :
    DoV P e (.makeSlice T n1 n2) w (fun v w2 => v = .slice (some ⟨w.heap.size, 0, none⟩) l.toNat n.toNat ∧ New w w2 E (List.replicate n.toNat z0)) := by
  intro w' hw ρ hρ o ho
  subst hby
  have hr := run_make (P := P) w' T E ti z0 hT hE hz k k' l n hn.1 hn.2.1 hn.2.2.1 hn.2.2.2
  refine ⟨.slice (some ⟨w.heap.size, 0, none⟩) l.toNat n.toNat, w.alloc (.cells (List.replicate n.toNat z0).toArray E), w'.alloc (.cells (List.replicate n.toNat z0).toArray E), ?_, hw.alloc _, rfl, New.alloc _ _ _⟩
  have h3 : madeCells z0.cells (n.toNat * ti.size) = (List.replicate n.toNat z0).toArray := by
    apply Array.ext'
    rw [hc, hs, Nat.mul_one, toList_madeCells_one]
  rw [h3] at hr
  simp only [execOp, ho, hρ _ _ h1, hρ _ _ h2, Sem.run_bind, hr, Result.andThen_ok, hw.heap]
  rfl
theorem Own.ofMake {α : Type} {t : Ty α} {Q : Nat → Prop} {w2 : World} {n : Nat} {z0 : Value} (N : New w w2 E (List.replicate n z0)) (h1 : t.size = 1) : Own t Q E w2 (.slice (some ⟨w.heap.size, 0, none⟩) 0 n) [] w.heap.size :=
  ⟨by show 0 < Lim; decide, .inr ⟨n, [], List.replicate n z0, rfl, Nat.zero_le _, .nil, N.blk, by simp [flat, h1]⟩⟩
theorem run_copy_call {ρ : Operand → Value} {ats : Array TypeId} {w w' : World} {o : Oper} (ho : o.op = .call { callee := .builtin .copy, args := #[x, y], argTypes := ats }) {r : Value} (h : (Builtin.copy_ ats o.type #[ρ x, ρ y]).run P w = .ok r w') :
    (execOp ρ o).run P w = .ok (.value r) w' := by
  simp [execOp, ho, resolve, invoke, builtin, h]
/-- bytes copied into a block of the call's own -/
theorem DoV.copyB {Q : Nat → Prop} {l : Bs} {c o dn dc : Nat} {cs : List Value} {T' : TypeId} (hx : look e x = some (.slice (some ⟨c, o, none⟩) dn dc)) (hB : Blk w c E cs) (hy : look e y = some u) (hu : tBytes.rep Q w u l) (hT : P.underlying T = some (.slice E)) (hs : sizeIs P E 1) (hfit : o + min l.length dn ≤ cs.length) :
    DoV P e (.call { callee := .builtin .copy, args := #[x, y], argTypes := #[T, T'] }) w (fun r w2 => r = i64 (min l.length dn : Nat) ∧ Put w w2 c E (cs.take o ++ (l.take (min l.length dn)).map u8 ++ cs.drop (o + min l.length dn))) := by
  intro w' hw ρ hρ op ho
  obtain ⟨hl, au, cap, rfl, hc, h⟩ := Sl.bytes hu
  have hB' : Blk w' c E cs := hB.keep (by rw [hw.heap])
  have hlen : ((l.take (min l.length dn)).map u8).length = min l.length dn := by simp
  have key : ∃ w2 w3, (execOp ρ op).run P w' = .ok (.value (i64 (min l.length dn : Nat))) w3 ∧ Same w2 w3 ∧ w2 = putCells w c o ((l.take (min l.length dn)).map u8) := by
    rcases h with ⟨rfl, rfl⟩ | ⟨b0, o0, rfl, hb, hlt, hcs⟩
    · refine ⟨w, w', run_copy_call ho ?_, hw, by simp [putCells]⟩
      rw [hρ _ _ hx, hρ _ _ hy]
      have := run_copy_none (P := P) w' T T' op.type E (some ⟨c, o, none⟩) au dn dc 0 0 hT hs (Nat.zero_min dn)
      simpa [goInt] using this
    · refine ⟨putCells w c o ((l.take (min l.length dn)).map u8), putCells w' c o ((l.take (min l.length dn)).map u8), run_copy_call ho ?_, hw.putCells c _ _, rfl⟩
      rw [hρ _ _ hx, hρ _ _ hy]
      have := run_copy_cells (P := P) w' T T' op.type E c o dn dc ⟨b0, o0, none⟩ l.length cap ((l.take (min l.length dn)).map u8) hT hs hlen
        (fun j v hj => by
          rw [add_none, hw.cell]
          refine hcs j v ?_
          rw [List.map_take, List.getElem?_take] at hj
          split at hj
          · exact hj
          · cases hj)
        (fun j hj => by rw [hB'.cell, List.getElem?_eq_getElem (by omega)]; rfl) (fun j hj => hB'.thawed _ (by omega)) (by intro v hv; obtain ⟨q, _, rfl⟩ := List.mem_map.1 hv; rfl)
      rw [hlen, ← putCells_setCells] at this
      exact this
  obtain ⟨w2, w3, hr, hs3, rfl⟩ := key
  have hb2 := hB.put ((l.take (min l.length dn)).map u8) o
  rw [splice_eq _ _ _ (by rw [hlen]; exact hfit), hlen] at hb2
  exact ⟨_, _, _, hr, hs3, rfl, hb2, putCells_ext _ _ _ _, putCells_size _ _ _ _⟩
theorem DoV.copyS {l : Bs} {c o dn dc : Nat} {cs : List Value} {T' : TypeId} (hx : look e x = some (.slice (some ⟨c, o, none⟩) dn dc)) (hB : Blk w c E cs) (hy : look e y = some (str l)) (hT : P.underlying T = some (.slice E)) (hs : sizeIs P E 1) (hdn : l.length ≤ dn) (hfit : o + l.length ≤ cs.length) :
    DoV P e (.call { callee := .builtin .copy, args := #[x, y], argTypes := #[T, T'] }) w (fun r w2 => r = i64 l.length ∧ Put w w2 c E (cs.take o ++ l.map u8 ++ cs.drop (o + l.length))) := by
  intro w' hw ρ hρ op ho
  have hB' : Blk w' c E cs := hB.keep (by rw [hw.heap])
  have hmap : (bs l).data.toList.map (fun x => Value.int .u8 (x.toNat : Int)) = l.map u8 := by simp [bs]
  have hlen : (l.map u8).length = l.length := by simp
  have hst := run_storeCells_cells (P := P) c o (l.map u8) 0 w' (fun j hj => by rw [Nat.add_zero, hB'.cell, List.getElem?_eq_getElem (by omega)]; rfl) (fun j hj => by rw [Nat.add_zero]; exact hB'.thawed _ (by omega)) (by simp [Value.oneCell'])
  have hmin : Nat.min (bs l).size dn = l.length := by rw [bs_size]; exact Nat.min_eq_left hdn
  refine ⟨i64 l.length, putCells w c o (l.map u8), putCells w' c o (l.map u8), run_copy_call ho ?_, hw.putCells c _ _, rfl, ?_⟩
  · rw [hρ _ _ hx, hρ _ _ hy]
    simp [Builtin.copy_, run_underlying hT, Builtin.lenOf, Builtin.firstCells, hs.run, hmin]
    rw [hmap, List.take_of_length_le (by simp), hst, putCells_setCells]
    rfl
  · have hb2 := hB.put (l.map u8) o
    rw [splice_eq _ _ _ (by rw [hlen]; exact hfit), hlen] at hb2
    exact ⟨hb2, putCells_ext _ _ _ _, putCells_size _ _ _ _⟩
end
end Go.Proofs.Ythkgadhamecnlaa
