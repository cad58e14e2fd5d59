
/-
  What single operations hand back. No program in sight.
-/
import Derived.Test.YthkgadhamecnlaaMix
import Derived.Laws.Cover3
set_option linter.unusedVariables false
set_option linter.unusedSimpArgs false
namespace Go.Proofs.Ythkgadhamecnlaa
open Go

abbrev u8 (x : UInt8) : Value := .int .u8 x.toNat
abbrev u32 (x : UInt32) : Value := .int .u32 x.toNat
abbrev u64 (x : UInt64) : Value := .int .u64 x.toNat
abbrev i64 (x : Int) : Value := .int .i64 x
abbrev Bs := List UInt8
def bs (l : Bs) : ByteArray := ⟨l.toArray⟩
abbrev str (l : Bs) : Value := .string (bs l)

theorem bs_size (l : Bs) : (bs l).size = l.length := by simp [bs, ByteArray.size]
theorem bs_toList (l : Bs) : (bs l).toList = l := ByteArray.toList_mk l
theorem bs_append (a b : Bs) : bs a ++ bs b = bs (a ++ b) := by
  apply ByteArray.ext
  simp [bs, ByteArray.data_append]
theorem bs_inj {a b : Bs} : bs a = bs b ↔ a = b := ⟨fun h => by have := congrArg ByteArray.toList h; rwa [bs_toList, bs_toList] at this, fun h => h ▸ rfl⟩
theorem bs_extract (l : Bs) (a b : Nat) : (bs l).extract a b = bs ((l.drop a).take (b - a)) := ByteArray.extract_mk l a b
theorem bs_of (s : ByteArray) : s = bs s.data.toList := by cases s; simp [bs]

section
variable {P : Program} {e : Env} {w : World} {x y z : Operand} {T T' : TypeId} {v u : Value}

theorem Ev.mv (h : look e x = some v) : Ev P e (.move x) w v := fun w' _ ρ hρ o ho => by simp [execOp, ho, hρ _ _ h]
theorem Ev.as (h : look e x = some v) : Ev P e (.assign x) w v := fun w' _ ρ hρ o ho => by simp [execOp, ho, hρ _ _ h]
theorem Ev.pickT (hc : look e z = some (.bool true)) (h : look e x = some v) : Ev P e (.pick z x y) w v := fun w' _ ρ hρ o ho => by simp [execOp, ho, hρ _ _ hc, hρ _ _ h, asBool]
theorem Ev.pickF (hc : look e z = some (.bool false)) (h : look e y = some v) : Ev P e (.pick z x y) w v := fun w' _ ρ hρ o ho => by simp [execOp, ho, hρ _ _ hc, hρ _ _ h, asBool]
theorem Ev.cast {op : Op} (h : Ev P e op w v) (hv : v = u) : Ev P e op w u := hv ▸ h
theorem Ev.yes {op : Op} {p : Prop} [Decidable p] (h : Ev P e op w (.bool (decide p))) (hp : p) : Ev P e op w (.bool true) := h.cast (by rw [decide_eq_true hp])
theorem Ev.no {op : Op} {p : Prop} [Decidable p] (h : Ev P e op w (.bool (decide p))) (hp : ¬ p) : Ev P e op w (.bool false) := h.cast (by rw [decide_eq_false hp])
theorem Ev.extract {vs : List Value} {i : Nat} (h : look e x = some (.tuple vs.toArray)) (hi : vs[i]? = some v) : Ev P e (.extract x i) w v := fun w' _ ρ hρ o ho => by simp [execOp, ho, hρ _ _ h, Instr.extract, hi]

/-! ints -/
section
variable {k : IntKind} {a b : Int}
theorem Ev.addK (hx : look e x = some (.int k a)) (hy : look e y = some (.int k b)) (hr : k.wrap (a + b) = a + b) : Ev P e (.binOp .add T x y T') w (.int k (a + b)) :=
  fun w' _ ρ hρ o ho => by simp [execOp, ho, hρ _ _ hx, hρ _ _ hy, eqGuard, binOp, Op.intArith, hr]
theorem Ev.subK (hx : look e x = some (.int k a)) (hy : look e y = some (.int k b)) (hr : k.wrap (a - b) = a - b) : Ev P e (.binOp .sub T x y T') w (.int k (a - b)) :=
  fun w' _ ρ hρ o ho => by simp [execOp, ho, hρ _ _ hx, hρ _ _ hy, eqGuard, binOp, Op.intArith, hr]
theorem Ev.mulK (hx : look e x = some (.int k a)) (hy : look e y = some (.int k b)) (hr : k.wrap (a * b) = a * b) : Ev P e (.binOp .mul T x y T') w (.int k (a * b)) :=
  fun w' _ ρ hρ o ho => by simp [execOp, ho, hρ _ _ hx, hρ _ _ hy, eqGuard, binOp, Op.intArith, hr]
theorem Ev.add (hx : look e x = some (i64 a)) (hy : look e y = some (i64 b)) (hr : -9223372036854775808 ≤ a + b ∧ a + b ≤ 9223372036854775807) : Ev P e (.binOp .add T x y T') w (i64 (a + b)) := .addK hx hy (IntWalk.i64_in _ hr)
theorem Ev.sub (hx : look e x = some (i64 a)) (hy : look e y = some (i64 b)) (hr : -9223372036854775808 ≤ a - b ∧ a - b ≤ 9223372036854775807) : Ev P e (.binOp .sub T x y T') w (i64 (a - b)) := .subK hx hy (IntWalk.i64_in _ hr)
theorem Ev.mul (hx : look e x = some (i64 a)) (hy : look e y = some (i64 b)) (hr : -9223372036854775808 ≤ a * b ∧ a * b ≤ 9223372036854775807) : Ev P e (.binOp .mul T x y T') w (i64 (a * b)) := .mulK hx hy (IntWalk.i64_in _ hr)
theorem Ev.quo (hx : look e x = some (i64 a)) (hy : look e y = some (i64 b)) (hr : 0 ≤ a ∧ a ≤ 9223372036854775807 ∧ 1 ≤ b) : Ev P e (.binOp .quo T x y T') w (i64 (a / b)) :=
  fun w' _ ρ hρ o ho => by simp [execOp, ho, hρ _ _ hx, hρ _ _ hy, eqGuard, binOp, Op.intDiv, (by omega : ¬ b = 0), IntWalk.i64_quo a b hr]; intro h; omega
theorem Ev.rem (hx : look e x = some (.int k a)) (hy : look e y = some (.int k b)) (hr : 0 ≤ a ∧ 1 ≤ b) : Ev P e (.binOp .rem T x y T') w (.int k (a % b)) :=
  fun w' _ ρ hρ o ho => by simp [execOp, ho, hρ _ _ hx, hρ _ _ hy, eqGuard, binOp, Op.intDiv, (by omega : ¬ b = 0), Int.tmod_eq_emod_of_nonneg hr.1]; intro h; omega
theorem Ev.addU (hx : look e x = some (.int .u64 a)) (hy : look e y = some (.int .u64 b)) (hr : 0 ≤ a + b ∧ a + b ≤ 18446744073709551615) : Ev P e (.binOp .add T x y T') w (.int .u64 (a + b)) := .addK hx hy (IntWalk.u64_in _ hr)
theorem Ev.subU (hx : look e x = some (.int .u64 a)) (hy : look e y = some (.int .u64 b)) (hr : 0 ≤ a - b ∧ a - b ≤ 18446744073709551615) : Ev P e (.binOp .sub T x y T') w (.int .u64 (a - b)) := .subK hx hy (IntWalk.u64_in _ hr)
theorem Ev.mulU (hx : look e x = some (.int .u64 a)) (hy : look e y = some (.int .u64 b)) (hr : 0 ≤ a * b ∧ a * b ≤ 18446744073709551615) : Ev P e (.binOp .mul T x y T') w (.int .u64 (a * b)) := .mulK hx hy (IntWalk.u64_in _ hr)
theorem Ev.quoK (hx : look e x = some (.int k a)) (hy : look e y = some (.int k b)) (h0 : 0 ≤ a ∧ 1 ≤ b) (hr : k.wrap (a / b) = a / b) : Ev P e (.binOp .quo T x y T') w (.int k (a / b)) :=
  fun w' _ ρ hρ o ho => by
    have h1 : a.tdiv b = a / b := Int.tdiv_eq_ediv_of_nonneg h0.1
    simp [execOp, ho, hρ _ _ hx, hρ _ _ hy, eqGuard, binOp, Op.intDiv, (by omega : ¬ b = 0), h1, hr]
    intro h; omega
theorem Ev.quoU (hx : look e x = some (.int .u64 a)) (hy : look e y = some (.int .u64 b)) (h0 : 0 ≤ a ∧ a ≤ 18446744073709551615 ∧ 1 ≤ b) : Ev P e (.binOp .quo T x y T') w (.int .u64 (a / b)) :=
  .quoK hx hy ⟨h0.1, h0.2.2⟩ (IntWalk.u64_in _ ⟨Int.ediv_nonneg h0.1 (by omega), Int.le_trans (Int.ediv_le_self b h0.1) h0.2.1⟩)
theorem Ev.eq (hx : look e x = some (.int k a)) (hy : look e y = some (.int k b)) : Ev P e (.binOp .eql T x y T') w (.bool (decide (a = b))) :=
  fun w' _ ρ hρ o ho => by simp [execOp, ho, hρ _ _ hx, hρ _ _ hy, eqGuard, binOp, Op.intCmp]; rfl
theorem Ev.ne (hx : look e x = some (.int k a)) (hy : look e y = some (.int k b)) : Ev P e (.binOp .neq T x y T') w (.bool (decide (¬ a = b))) :=
  fun w' _ ρ hρ o ho => by
    simp [execOp, ho, hρ _ _ hx, hρ _ _ hy, eqGuard, binOp, Op.intCmp]
    by_cases h : a = b <;> simp [h]
theorem Ev.lt (hx : look e x = some (.int k a)) (hy : look e y = some (.int k b)) : Ev P e (.binOp .lss T x y T') w (.bool (decide (a < b))) :=
  fun w' _ ρ hρ o ho => by simp [execOp, ho, hρ _ _ hx, hρ _ _ hy, eqGuard, binOp, Op.intCmp]
theorem Ev.le (hx : look e x = some (.int k a)) (hy : look e y = some (.int k b)) : Ev P e (.binOp .leq T x y T') w (.bool (decide (a ≤ b))) :=
  fun w' _ ρ hρ o ho => by simp [execOp, ho, hρ _ _ hx, hρ _ _ hy, eqGuard, binOp, Op.intCmp]
theorem Ev.gt (hx : look e x = some (.int k a)) (hy : look e y = some (.int k b)) : Ev P e (.binOp .gtr T x y T') w (.bool (decide (b < a))) :=
  fun w' _ ρ hρ o ho => by simp [execOp, ho, hρ _ _ hx, hρ _ _ hy, eqGuard, binOp, Op.intCmp]
theorem Ev.ge (hx : look e x = some (.int k a)) (hy : look e y = some (.int k b)) : Ev P e (.binOp .geq T x y T') w (.bool (decide (b ≤ a))) :=
  fun w' _ ρ hρ o ho => by simp [execOp, ho, hρ _ _ hx, hρ _ _ hy, eqGuard, binOp, Op.intCmp]
theorem Ev.not {c : Bool} (hx : look e x = some (.bool c)) : Ev P e (.unOp .not T x) w (.bool (!c)) :=
  fun w' _ ρ hρ o ho => by simp [execOp, ho, hρ _ _ hx, Op.unary]
theorem Ev.notD {p : Prop} [Decidable p] (hx : look e x = some (.bool (decide p))) : Ev P e (.unOp .not T x) w (.bool (decide (¬ p))) :=
  fun w' _ ρ hρ o ho => by simp [execOp, ho, hρ _ _ hx, Op.unary]
/-- a shift to the right by a constant -/
theorem Ev.shrC (n : Nat) (m : Int) {k' : IntKind} (hx : look e x = some (.int k a)) (hy : look e y = some (.int k' (n : Int))) (hn : n ≤ k.bits) (hm : (2 : Int) ^ n = m) : Ev P e (.binOp .shr T x y T') w (.int k (a / m)) :=
  fun w' _ ρ hρ o ho => by
    subst hm
    have h1 : ¬ ((n : Int) < 0) := by omega
    simp [execOp, ho, hρ _ _ hx, hρ _ _ hy, eqGuard, binOp, Op.shift, h1, Nat.min_eq_left hn]
    exact Int.fdiv_eq_ediv_of_nonneg _ (by exact Int.pow_nonneg (by omega))
/-- a mask of the lowest bits -/
theorem Ev.maskC (n : Nat) (c m : Int) (hx : look e x = some (i64 a)) (hy : look e y = some (i64 c)) (ha : 0 ≤ a ∧ a ≤ 9223372036854775807) (hn : n < 63) (hc : c = ((2 ^ n - 1 : Nat) : Int)) (hm : ((2 ^ n : Nat) : Int) = m) : Ev P e (.binOp .and T x y T') w (i64 (a % m)) :=
  fun w' _ ρ hρ o ho => by
    subst hm
    subst hc
    obtain ⟨q, rfl⟩ := Int.eq_ofNat_of_zero_le ha.1
    have hp : 2 ^ n ≤ 2 ^ 62 := Nat.pow_le_pow_right (by omega) (by omega)
    have hpos : 0 < 2 ^ n := Nat.pow_pos (by omega)
    have hlt : q % 2 ^ n < 2 ^ n := Nat.mod_lt _ hpos
    have h1 : Op.intBits .and .i64 (q : Int) ((2 ^ n - 1 : Nat) : Int) = Sem.pure (.int .i64 ((q : Int) % ((2 ^ n : Nat) : Int))) := by
      show Sem.pure (Value.int .i64 (IntKind.i64.wrap ((BitVec.ofInt 64 (q : Int) &&& BitVec.ofInt 64 ((2 ^ n - 1 : Nat) : Int)).toNat))) = _
      have h2 : (BitVec.ofInt 64 (q : Int) &&& BitVec.ofInt 64 ((2 ^ n - 1 : Nat) : Int)).toNat = q % 2 ^ n := by
        rw [BitVec.ofInt_natCast, BitVec.ofInt_natCast, BitVec.toNat_and, BitVec.toNat_ofNat, BitVec.toNat_ofNat, Nat.mod_eq_of_lt (by omega), Nat.mod_eq_of_lt (by omega), Nat.and_two_pow_sub_one_eq_mod]
      rw [h2, IntWalk.i64_in _ (by omega)]
      simp
    simp [execOp, ho, hρ _ _ hx, hρ _ _ hy, eqGuard, binOp, h1]
end

/-! small unsigned numbers -/
theorem intBits_and8 (a b : UInt8) : Op.intBits .and .u8 (a.toNat : Int) (b.toNat : Int) = Sem.pure (u8 (a &&& b)) := by
  show Sem.pure (Value.int .u8 (IntKind.u8.wrap ((BitVec.ofInt 8 (a.toNat : Int) &&& BitVec.ofInt 8 (b.toNat : Int)).toNat))) = _
  rw [BitVec.ofInt_natCast, BitVec.ofInt_natCast, IntWalk.u8_in _ (by omega)]
  simp [u8]
theorem intBits_or8 (a b : UInt8) : Op.intBits .or .u8 (a.toNat : Int) (b.toNat : Int) = Sem.pure (u8 (a ||| b)) := by
  show Sem.pure (Value.int .u8 (IntKind.u8.wrap ((BitVec.ofInt 8 (a.toNat : Int) ||| BitVec.ofInt 8 (b.toNat : Int)).toNat))) = _
  rw [BitVec.ofInt_natCast, BitVec.ofInt_natCast, IntWalk.u8_in _ (by omega)]
  simp [u8]
theorem intBits_andNot8 (a b : UInt8) : Op.intBits .andNot .u8 (a.toNat : Int) (b.toNat : Int) = Sem.pure (u8 (a &&& ~~~b)) := by
  show Sem.pure (Value.int .u8 (IntKind.u8.wrap ((BitVec.ofInt 8 (a.toNat : Int) &&& ~~~ BitVec.ofInt 8 (b.toNat : Int)).toNat))) = _
  rw [BitVec.ofInt_natCast, BitVec.ofInt_natCast, IntWalk.u8_in _ (by omega)]
  simp [u8]
theorem intBits_and32 (a b : UInt32) : Op.intBits .and .u32 (a.toNat : Int) (b.toNat : Int) = Sem.pure (u32 (a &&& b)) := by
  show Sem.pure (Value.int .u32 (IntKind.u32.wrap ((BitVec.ofInt 32 (a.toNat : Int) &&& BitVec.ofInt 32 (b.toNat : Int)).toNat))) = _
  rw [BitVec.ofInt_natCast, BitVec.ofInt_natCast, IntWalk.u32_in _ (by omega)]
  simp [u32]
theorem intBits_or32 (a b : UInt32) : Op.intBits .or .u32 (a.toNat : Int) (b.toNat : Int) = Sem.pure (u32 (a ||| b)) := by
  show Sem.pure (Value.int .u32 (IntKind.u32.wrap ((BitVec.ofInt 32 (a.toNat : Int) ||| BitVec.ofInt 32 (b.toNat : Int)).toNat))) = _
  rw [BitVec.ofInt_natCast, BitVec.ofInt_natCast, IntWalk.u32_in _ (by omega)]
  simp [u32]
theorem intBits_xor32 (a b : UInt32) : Op.intBits .xor .u32 (a.toNat : Int) (b.toNat : Int) = Sem.pure (u32 (a ^^^ b)) := by
  show Sem.pure (Value.int .u32 (IntKind.u32.wrap ((BitVec.ofInt 32 (a.toNat : Int) ^^^ BitVec.ofInt 32 (b.toNat : Int)).toNat))) = _
  rw [BitVec.ofInt_natCast, BitVec.ofInt_natCast, IntWalk.u32_in _ (by omega)]
  simp [u32]
theorem Ev.and8 {a b : UInt8} (hx : look e x = some (u8 a)) (hy : look e y = some (u8 b)) : Ev P e (.binOp .and T x y T') w (u8 (a &&& b)) :=
  fun w' _ ρ hρ o ho => by simp [execOp, ho, hρ _ _ hx, hρ _ _ hy, eqGuard, binOp, intBits_and8]
theorem Ev.or8 {a b : UInt8} (hx : look e x = some (u8 a)) (hy : look e y = some (u8 b)) : Ev P e (.binOp .or T x y T') w (u8 (a ||| b)) :=
  fun w' _ ρ hρ o ho => by simp [execOp, ho, hρ _ _ hx, hρ _ _ hy, eqGuard, binOp, intBits_or8]
theorem Ev.andNot8 {a b : UInt8} (hx : look e x = some (u8 a)) (hy : look e y = some (u8 b)) : Ev P e (.binOp .andNot T x y T') w (u8 (a &&& ~~~b)) :=
  fun w' _ ρ hρ o ho => by simp [execOp, ho, hρ _ _ hx, hρ _ _ hy, eqGuard, binOp, intBits_andNot8]
theorem Ev.and32 {a b : UInt32} (hx : look e x = some (u32 a)) (hy : look e y = some (u32 b)) : Ev P e (.binOp .and T x y T') w (u32 (a &&& b)) :=
  fun w' _ ρ hρ o ho => by simp [execOp, ho, hρ _ _ hx, hρ _ _ hy, eqGuard, binOp, intBits_and32]
theorem Ev.or32 {a b : UInt32} (hx : look e x = some (u32 a)) (hy : look e y = some (u32 b)) : Ev P e (.binOp .or T x y T') w (u32 (a ||| b)) :=
  fun w' _ ρ hρ o ho => by simp [execOp, ho, hρ _ _ hx, hρ _ _ hy, eqGuard, binOp, intBits_or32]
theorem Ev.xor32 {a b : UInt32} (hx : look e x = some (u32 a)) (hy : look e y = some (u32 b)) : Ev P e (.binOp .xor T x y T') w (u32 (a ^^^ b)) :=
  fun w' _ ρ hρ o ho => by simp [execOp, ho, hρ _ _ hx, hρ _ _ hy, eqGuard, binOp, intBits_xor32]
theorem Ev.com32 {a : UInt32} (hx : look e x = some (u32 a)) : Ev P e (.unOp .xor T x) w (u32 (~~~a)) :=
  fun w' _ ρ hρ o ho => by
    have h1 := intBits_xor32 4294967295 a
    have h2 : (4294967295 : UInt32) ^^^ a = ~~~a := by
      apply UInt32.toBitVec_inj.1
      simp [UInt32.toBitVec_xor, UInt32.toBitVec_not, BitVec.not_def]
    rw [h2] at h1
    have h3 : ((4294967295 : UInt32).toNat : Int) = IntKind.u32.max := rfl
    rw [h3] at h1
    simp [execOp, ho, hρ _ _ hx, Op.unary, IntKind.signed, h1]
theorem Ev.add32 {a b : UInt32} (hx : look e x = some (u32 a)) (hy : look e y = some (u32 b)) : Ev P e (.binOp .add T x y T') w (u32 (a + b)) :=
  fun w' _ ρ hρ o ho => by
    simp [execOp, ho, hρ _ _ hx, hρ _ _ hy, eqGuard, binOp, Op.intArith, IntKind.wrap_u32]
theorem Ev.rem32 {a b : UInt32} (hx : look e x = some (u32 a)) (hy : look e y = some (u32 b)) (hb : 1 ≤ b.toNat) : Ev P e (.binOp .rem T x y T') w (u32 (a % b)) :=
  (Ev.rem hx hy (by omega)).cast (by simp [u32])
theorem Ev.quo32 {a b : UInt32} (hx : look e x = some (u32 a)) (hy : look e y = some (u32 b)) (hb : 1 ≤ b.toNat) : Ev P e (.binOp .quo T x y T') w (u32 (a / b)) :=
  (Ev.quoK hx hy (by omega) (by
    have h1 := a.toNat_lt
    have h2 : (a.toNat : Int) / (b.toNat : Int) = ((a.toNat / b.toNat : Nat) : Int) := by simp
    have h3 : a.toNat / b.toNat ≤ a.toNat := Nat.div_le_self _ _
    rw [h2]
    generalize a.toNat / b.toNat = q at h3 ⊢
    exact IntWalk.u32_in _ (by omega))).cast (by simp [u32])
theorem Ev.quo8 {a b : UInt8} (hx : look e x = some (u8 a)) (hy : look e y = some (u8 b)) (hb : 1 ≤ b.toNat) : Ev P e (.binOp .quo T x y T') w (u8 (a / b)) :=
  (Ev.quoK hx hy (by omega) (by
    have h1 := a.toNat_lt
    have h2 : (a.toNat : Int) / (b.toNat : Int) = ((a.toNat / b.toNat : Nat) : Int) := by simp
    have h3 : a.toNat / b.toNat ≤ a.toNat := Nat.div_le_self _ _
    rw [h2]
    generalize a.toNat / b.toNat = q at h3 ⊢
    exact IntWalk.u8_in _ (by omega))).cast (by simp [u8])
theorem Ev.rem8 {a b : UInt8} (hx : look e x = some (u8 a)) (hy : look e y = some (u8 b)) (hb : 1 ≤ b.toNat) : Ev P e (.binOp .rem T x y T') w (u8 (a % b)) :=
  (Ev.rem hx hy (by omega)).cast (by simp [u8])
theorem Ev.shr32 (n : Nat) {a : UInt32} {k' : IntKind} (hx : look e x = some (u32 a)) (hy : look e y = some (.int k' (n : Int))) (hn : n < 32) : Ev P e (.binOp .shr T x y T') w (u32 (a >>> UInt32.ofNat n)) :=
  (Ev.shrC n (2 ^ n) hx hy (by show n ≤ 32; omega) rfl).cast (by
    simp only [u32, UInt32.toNat_shiftRight, Nat.shiftRight_eq_div_pow]
    rw [show (UInt32.ofNat n).toNat % 32 = n by simp; omega]
    simp)
theorem Ev.shr8 (n : Nat) {a : UInt8} {k' : IntKind} (hx : look e x = some (u8 a)) (hy : look e y = some (.int k' (n : Int))) (hn : n < 8) : Ev P e (.binOp .shr T x y T') w (u8 (a >>> UInt8.ofNat n)) :=
  (Ev.shrC n (2 ^ n) hx hy (by show n ≤ 8; omega) rfl).cast (by
    simp only [u8, UInt8.toNat_shiftRight, Nat.shiftRight_eq_div_pow]
    rw [show (UInt8.ofNat n).toNat % 8 = n by simp; omega]
    simp)
theorem Ev.shl8 {a : UInt8} {k' : IntKind} (n : Nat) (hx : look e x = some (u8 a)) (hy : look e y = some (.int k' (n : Int))) (hn : n < 8) : Ev P e (.binOp .shl T x y T') w (u8 (a <<< UInt8.ofNat n)) :=
  fun w' _ ρ hρ o ho => by
    have h1 : ¬ ((n : Int) < 0) := by omega
    have h2 : min n IntKind.u8.bits = n := Nat.min_eq_left (by show n ≤ 8; omega)
    have h3 : IntKind.u8.wrap ((a.toNat : Int) * 2 ^ n) = ((a <<< UInt8.ofNat n).toNat : Int) := by
      rw [IntKind.wrap_u8, UInt8.toNat_shiftLeft, Nat.shiftLeft_eq, show (UInt8.ofNat n).toNat % 8 = n by simp; omega]
      have h4 : ((a.toNat * 2 ^ n : Nat) : Int) = (a.toNat : Int) * 2 ^ n := by simp
      rw [← h4]
      omega
    have h5 : Op.shift .shl .u8 (a.toNat : Int) k' (n : Int) = Sem.pure (u8 (a <<< UInt8.ofNat n)) := by
      unfold Op.shift
      rw [if_neg h1]
      simp only [Int.toNat_natCast, h2, h3]
      rfl
    simp [execOp, ho, hρ _ _ hx, hρ _ _ hy, eqGuard, binOp, h5]
    rw [h3]
    simp
theorem Ev.sub8 {a b : UInt8} (hx : look e x = some (u8 a)) (hy : look e y = some (u8 b)) : Ev P e (.binOp .sub T x y T') w (u8 (a - b)) :=
  fun w' _ ρ hρ o ho => by
    simp [execOp, ho, hρ _ _ hx, hρ _ _ hy, eqGuard, binOp, Op.intArith, IntKind.wrap_u8, UInt8.toNat_sub]
    have := a.toNat_lt
    have := b.toNat_lt
    omega

/-! conversions of numbers -/
theorem Ev.conv {k k' : IntKind} {a : Int} (hT : P.underlying T' = some (.int k')) {d : TypeDesc} (hS : P.underlying T = some d) (hx : look e x = some (.int k a)) : Ev P e (.convert T T' x) w (.int k' (k'.wrap a)) :=
  fun w' _ ρ hρ o ho => by simp [execOp, ho, hρ _ _ hx, convert, run_underlying hT, run_underlying hS, Conv.intToInt]
theorem Ev.conv8_32 {d : TypeDesc} {a : UInt8} (hT : P.underlying T' = some (.int .u32)) (hS : P.underlying T = some d) (hx : look e x = some (u8 a)) : Ev P e (.convert T T' x) w (u32 a.toUInt32) :=
  (Ev.conv hT hS hx).cast (by have := a.toNat_lt; rw [IntWalk.u32_in _ (by omega)]; simp)
theorem Ev.convTo {k k' : IntKind} {a : Int} {d : TypeDesc} (hT : P.underlying T' = some (.int k')) (hS : P.underlying T = some d) (hx : look e x = some (.int k a)) (hr : k'.wrap a = a) : Ev P e (.convert T T' x) w (.int k' a) := (Ev.conv hT hS hx).cast (by rw [hr])
theorem Ev.convU {k : IntKind} {a : Int} {d : TypeDesc} (hT : P.underlying T' = some (.int .u64)) (hS : P.underlying T = some d) (hx : look e x = some (.int k a)) (hr : 0 ≤ a ∧ a ≤ 18446744073709551615) : Ev P e (.convert T T' x) w (.int .u64 a) := .convTo hT hS hx (IntWalk.u64_in _ hr)
theorem Ev.convI {k : IntKind} {a : Int} {d : TypeDesc} (hT : P.underlying T' = some (.int .i64)) (hS : P.underlying T = some d) (hx : look e x = some (.int k a)) (hr : -9223372036854775808 ≤ a ∧ a ≤ 9223372036854775807) : Ev P e (.convert T T' x) w (i64 a) := .convTo hT hS hx (IntWalk.i64_in _ hr)
theorem Ev.conv32_i {d : TypeDesc} {a : UInt32} (hT : P.underlying T' = some (.int .i64)) (hS : P.underlying T = some d) (hx : look e x = some (u32 a)) : Ev P e (.convert T T' x) w (i64 a.toNat) :=
  (Ev.conv hT hS hx).cast (by have := a.toNat_lt; rw [IntWalk.i64_in _ (by omega)])
theorem Ev.convi_32 {d : TypeDesc} {a : Int} (hT : P.underlying T' = some (.int .u32)) (hS : P.underlying T = some d) (hx : look e x = some (i64 a)) (ha : 0 ≤ a ∧ a ≤ 4294967295) : Ev P e (.convert T T' x) w (u32 (UInt32.ofNat a.toNat)) :=
  (Ev.conv hT hS hx).cast (by rw [IntWalk.u32_in _ ha]; simp; omega)

/-! texts and lengths -/
theorem Ev.lenS {l : Bs} (hT : P.underlying T = some .string) (hx : look e x = some (str l)) : Ev P e (.call { callee := .builtin .len, args := #[x], argTypes := #[T] }) w (i64 l.length) :=
  fun w' _ ρ hρ o ho => by simp [execOp, ho, resolve, invoke, builtin, hρ _ _ hx, Builtin.len_, run_underlying hT, goInt, bs_size]
theorem Ev.len {E : TypeId} {a : Option Addr} {n c : Nat} (hT : P.underlying T = some (.slice E)) (hx : look e x = some (.slice a n c)) : Ev P e (.call { callee := .builtin .len, args := #[x], argTypes := #[T] }) w (i64 n) :=
  fun w' _ ρ hρ o ho => by simp [execOp, ho, resolve, invoke, builtin, hρ _ _ hx, Builtin.len_, run_underlying hT, goInt]
theorem Ev.addS {a b : Bs} (hx : look e x = some (str a)) (hy : look e y = some (str b)) (h : a.length + b.length ≤ 9223372036854775807) : Ev P e (.binOp .add T x y T') w (str (a ++ b)) :=
  fun w' _ ρ hρ o ho => by
    have h1 : ¬ ((((bs a).size + (bs b).size : Nat) : Int) > IntKind.i64.max) := by
      rw [bs_size, bs_size]; show ¬ (_ > (9223372036854775807 : Int)); omega
    simp only [execOp, ho, hρ _ _ hx, hρ _ _ hy, Sem.run_bind, eqGuard, binOp, Op.stringOp, h1, if_false, bs_append]
    simp
theorem Ev.eqB {a b : Bool} (hx : look e x = some (.bool a)) (hy : look e y = some (.bool b)) (hT : P.underlying T = some .bool) : Ev P e (.binOp .eql T x y T') w (.bool (a == b)) :=
  fun w' _ ρ hρ o ho => by
    simp [execOp, ho, hρ _ _ hx, hρ _ _ hy, eqGuard, binOp, run_equal_bool w' _ a b hT]
theorem Ev.neB {a b : Bool} (hx : look e x = some (.bool a)) (hy : look e y = some (.bool b)) (hT : P.underlying T = some .bool) : Ev P e (.binOp .neq T x y T') w (.bool (a != b)) :=
  fun w' _ ρ hρ o ho => by
    simp [execOp, ho, hρ _ _ hx, hρ _ _ hy, eqGuard, binOp, run_equal_bool w' _ a b hT]
    cases a <;> cases b <;> rfl
theorem Ev.eqNil {E : TypeId} {a : Option Addr} {n c : Nat} (hx : look e x = some (.slice a n c)) (hy : look e y = some (.slice none 0 0)) (hT : P.underlying T = some (.slice E)) : Ev P e (.binOp .eql T x y T') w (.bool a.isNone) :=
  fun w' _ ρ hρ o ho => by
    simp [execOp, ho, hρ _ _ hx, hρ _ _ hy, eqGuard, binOp, run_equal_slice_nil w' _ E a n c hT]
theorem Ev.neNil {E : TypeId} {a : Option Addr} {n c : Nat} (hx : look e x = some (.slice a n c)) (hy : look e y = some (.slice none 0 0)) (hT : P.underlying T = some (.slice E)) : Ev P e (.binOp .neq T x y T') w (.bool !a.isNone) :=
  fun w' _ ρ hρ o ho => by
    simp [execOp, ho, hρ _ _ hx, hρ _ _ hy, eqGuard, binOp, run_equal_slice_nil w' _ E a n c hT]
theorem Ev.eqS {a b : Bs} (hx : look e x = some (str a)) (hy : look e y = some (str b)) : Ev P e (.binOp .eql T x y T') w (.bool (decide (a = b))) :=
  fun w' _ ρ hρ o ho => by
    simp [execOp, ho, hρ _ _ hx, hρ _ _ hy, eqGuard, binOp, Op.stringOp, bs_toList]
    by_cases h : a = b <;> simp [h]
theorem Ev.neS {a b : Bs} (hx : look e x = some (str a)) (hy : look e y = some (str b)) : Ev P e (.binOp .neq T x y T') w (.bool (decide (¬ a = b))) :=
  fun w' _ ρ hρ o ho => by
    simp [execOp, ho, hρ _ _ hx, hρ _ _ hy, eqGuard, binOp, Op.stringOp, bs_toList]
    by_cases h : a = b <;> simp [h]
end
end Go.Proofs.Ythkgadhamecnlaa
