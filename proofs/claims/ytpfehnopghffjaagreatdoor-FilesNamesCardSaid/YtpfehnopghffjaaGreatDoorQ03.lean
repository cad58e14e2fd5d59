import Derived.Test.YtpfehnopghffjaaGreatDoorQ02
import Derived.Laws.Cover3
set_option linter.unusedVariables false
set_option linter.unusedSimpArgs false
/-
  What single operations hand back. No program in sight.
-/
namespace Go.Proofs.YtpfehnopghffjaaGreatDoor
open Go

abbrev u8 (x : UInt8) : Value := .int .u8 x.toNat
abbrev u32 (x : UInt32) : Value := .int .u32 x.toNat
abbrev u64 (x : UInt64) : Value := .int .u64 x.toNat
abbrev i64 (x : Int) : Value := .int .i64 x
abbrev Bs := List UInt8
def bs (l : Bs) : ByteArray := ⟨l.toArray⟩
abbrev str (l : Bs) : Value := .string (bs l)

theorem bs_size (l : Bs) : (bs l).size = l.length := by simp [bs, ByteArray.size]
theorem bs_toList (l : Bs) : (bs l).toList = l := ByteArray.toList_mk l
theorem bs_append (a b : Bs) : bs a ++ bs b = bs (a ++ b) := by
  apply ByteArray.ext
  simp [bs, ByteArray.data_append]
theorem bs_inj {a b : Bs} : bs a = bs b ↔ a = b := ⟨fun h => by have := congrArg ByteArray.toList h; rwa [bs_toList, bs_toList] at this, fun h => h ▸ rfl⟩
theorem bs_extract (l : Bs) (a b : Nat) : (bs l).extract a b = bs ((l.drop a).take (b - a)) := ByteArray.extract_mk l a b
theorem bs_of (s : ByteArray) : s = bs s.data.toList := by cases s; simp [bs]

section
variable {P : Program} {e : Env} {w : World} {x y z : Operand} {T T' : TypeId} {v u : Value}

theorem Ev.mv (h : look e x = some v) : Ev P e (.move x) w v := fun w' _ ρ hρ o ho => by simp [execOp, ho, hρ _ _ h]
theorem Ev.as (h : look e x = some v) : Ev P e (.assign x) w v := fun w' _ ρ hρ o ho => by simp [execOp, ho, hρ _ _ h]
theorem Ev.pickT (hc : look e z = some (.bool true)) (h : look e x = some v) : Ev P e (.pick z x y) w v := fun w' _ ρ hρ o ho => by simp [execOp, ho, hρ _ _ hc, hρ _ _ h, asBool]
theorem Ev.pickF (hc : look e z = some (.bool false)) (h : look e y = some v) : Ev P e (.pick z x y) w v := fun w' _ ρ hρ o ho => by simp [execOp, ho, hρ _ _ hc, hρ _ _ h, asBool]
theorem Ev.cast {op : Op} (h : Ev P e op w v) (hv : v = u) : Ev P e op w u := hv ▸ h
theorem Ev.yes {op : Op} {p : Prop} [Decidable p] (h : Ev P e op w (.bool (decide p))) (hp : p) : Ev P e op w (.bool true) := h.cast (by rw [decide_eq_true hp])
theorem Ev.no {op : Op} {p : Prop} [Decidable p] (h : Ev P e op w (.bool (decide p))) (hp : ¬ p) : Ev P e op w (.bool false) := h.cast (by rw [decide_eq_false hp])
theorem Ev.extract {vs : List Value} {i : Nat} (h : look e x = some (.tuple vs.toArray)) (hi : vs[i]? = some v) : Ev P e (.extract x i) w v := fun w' _ ρ hρ o ho => by simp [execOp, ho, hρ _ _ h, Instr.extract, hi]

/-! ints -/
section
variable {k : IntKind} {a b : Int}
theorem Ev.addK (hx : look e x = some (.int k a)) (hy : look e y = some (.int k b)) (hr : k.wrap (a + b) = a + b) : Ev P e (.binOp .add T x y T') w (.int k (a + b)) :=
  fun w' _ ρ hρ o ho => by simp [execOp, ho, hρ _ _ hx, hρ _ _ hy, eqGuard, binOp, Op.intArith, hr]
theorem Ev.subK (hx : look e x = some (.int k a)) (hy : look e y = some (.int k b)) (hr : k.wrap (a - b) = a - b) : Ev P e (.binOp .sub T x y T') w (.int k (a - b)) :=
  fun w' _ ρ hρ o ho => by simp [execOp, ho, hρ _ _ hx, hρ _ _ hy, eqGuard, binOp, Op.intArith, hr]
theorem Ev.mulK (hx : look e x = some (.int k a)) (hy : look e y = some (.int k b)) (hr : k.wrap (a * b) = a * b) : Ev P e (.binOp .mul T x y T') w (.int k (a * b)) :=
  fun w' _ ρ hρ o ho => by simp [execOp, ho, hρ _ _ hx, hρ _ _ hy, eqGuard, binOp, Op.intArith, hr]
theorem Ev.add (hx : look e x = some (i64 a)) (hy : look e y = some (i64 b)) (hr : -9223372036854775808 ≤ a + b ∧ a + b ≤ 9223372036854775807) : Ev P e (.binOp .add T x y T') w (i64 (a + b)) := .addK hx hy (IntWalk.i64_in _ hr)
theorem Ev.sub (hx : look e x = some (i64 a)) (hy : look e y = some (i64 b)) (hr : -9223372036854775808 ≤ a - b ∧ a - b ≤ 9223372036854775807) : Ev P e (.binOp .sub T x y T') w (i64 (a - b)) := .subK hx hy (IntWalk.i64_in _ hr)
theorem Ev.mul (hx : look e x = some (i64 a)) (hy : look e y = some (i64 b)) (hr : -9223372036854775808 ≤ a * b ∧ a * b ≤ 9223372036854775807) : Ev P e (.binOp .mul T x y T') w (i64 (a * b)) := .mulK hx hy (IntWalk.i64_in _ hr)
theorem Ev.quo (hx : look e x = some (i64 a)) (hy : look e y = some (i64 b)) (hr : 0 ≤ a ∧ a ≤ 9223372036854775807 ∧ 1 ≤ b) : Ev P e (.binOp .quo T x y T') w (i64 (a / b)) :=
  fun w' _ ρ hρ o ho => by simp [execOp, ho, hρ _ _ hx, hρ _ _ hy, eqGuard, binOp, Op.intDiv, (by omega : ¬ b = 0), IntWalk.i64_quo a b hr]; intro h; omega
theorem Ev.rem (hx : look e x = some (.int k a)) (hy : look e y = some (.int k b)) (hr : 0 ≤ a ∧ 1 ≤ b) : Ev P e (.binOp .rem T x y T') w (.int k (a % b)) :=
  fun w' _ ρ hρ o ho => by simp [execOp, ho, hρ _ _ hx, hρ _ _ hy, eqGuard, binOp, Op.intDiv, (by omega : ¬ b = 0), Int.tmod_eq_emod_of_nonneg hr.1]; intro h; omega
theorem Ev.addU (hx : look e x = some (.int .u64 a)) (hy : look e y = some (.int .u64 b)) (hr : 0 ≤ a + b ∧ a + b ≤ 18446744073709551615) : Ev P e (.binOp .add T x y T') w (.int .u64 (a + b)) := .addK hx hy (IntWalk.u64_in _ hr)
theorem Ev.subU (hx : look e x = some (.int .u64 a)) (hy : look e y = some (.int .u64 b)) (hr : 0 ≤ a - b ∧ a - b ≤ 18446744073709551615) : Ev P e (.binOp .sub T x y T') w (.int .u64 (a - b)) := .subK hx hy (IntWalk.u64_in _ hr)
theorem Ev.mulU (hx : look e x = some (.int .u64 a)) (hy : look e y = some (.int .u64 b)) (hr : 0 ≤ a * b ∧ a * b ≤ 18446744073709551615) : Ev P e (.binOp .mul T x y T') w (.int .u64 (a * b)) := .mulK hx hy (IntWalk.u64_in _ hr)
theorem Ev.quoK (hx : look e x = some (.int k a)) (hy : look e y = some (.int k b)) (h0 : 0 ≤ a ∧ 1 ≤ b) (hr : k.wrap (a / b) = a / b) : Ev P e (.binOp .quo T x y T') w (.int k (a / b)) :=
  fun w' _ ρ hρ o ho => by
    have h1 : a.tdiv b = a / b := Int.tdiv_eq_ediv_of_nonneg h0.1
    simp [execOp, ho, hρ _ _ hx, hρ _ _ hy, eqGuard, binOp, Op.intDiv, (by omega : ¬ b = 0), h1, hr]
    intro h; omega
theorem Ev.quoU (hx : look e x = some (.int .u64 a)) (hy : look e y = some (.int .u64 b)) (h0 : 0 ≤ a ∧ a ≤ 18446744073709551615 ∧ 1 ≤ b) : Ev P e (.binOp .quo T x y T') w (.int .u64 (a / b)) :=
  .quoK hx hy ⟨h0.1, h0.2.2⟩ (IntWalk.u64_in _ ⟨Int.ediv_nonneg h0.1 (by omega), Int.le_trans (Int.ediv_le_self b h0.1) h0.2.1⟩)
theorem Ev.eq (hx : look e x = some (.int k a)) (hy : look e y = some (.int k b)) : Ev P e (.binOp .eql T x y T') w (.bool (decide (a = b))) :=
  fun w' _ ρ hρ o ho => by simp [execOp, ho, hρ _ _ hx, hρ _ _ hy, eqGuard, binOp, Op.intCmp]; rfl
theorem Ev.ne (hx : look e x = some (.int k a)) (hy : look e y = some (.int k b)) : Ev P e (.binOp .neq T x y T') w (.bool (decide (¬ a = b))) :=
  fun w' _ ρ hρ o ho => by
    simp [execOp, ho, hρ _ _ hx, hρ _ _ hy, eqGuard, binOp, Op.intCmp]
    by_cases h : a = b <;> simp [h]
theorem Ev.lt (hx : look e x = some (.int k a)) (hy : look e y = some (.int k b)) : Ev P e (.binOp .lss T x y T') w (.bool (decide (a < b))) :=
  fun w' _ ρ hρ o ho => by simp [execOp, ho, hρ _ _ hx, hρ _ _ hy, eqGuard, binOp, Op.intCmp]
theorem Ev.le (hx : look e x = some (.int k a)) (hy : look e y = some (.int k b)) : Ev P e (.binOp .leq T x y T') w (.bool (decide (a ≤ b))) :=
  fun w' _ ρ hρ o ho => by simp [execOp, ho, hρ _ _ hx, hρ _ _ hy, eqGuard, binOp, Op.intCmp]
theorem Ev.gt (hx : look e x = some (.int k a)) (hy : look e y = some (.int k b)) : Ev P e (.binOp .gtr T x y T') w (.bool (decide (b < a))) :=
  fun w' _ ρ hρ o ho => by simp [execOp, ho, hρ _ _ hx, hρ _ _ hy, eqGuard, binOp, Op.intCmp]
theorem Ev.ge (hx : look e x = some (.int k a)) (hy : look e y = some (.int k b)) : Ev P e (.binOp .geq T x y T') w (.bool (decide (b ≤ a))) :=
  fun w' _ ρ hρ o ho => by simp [execOp, ho, hρ _ _ hx, hρ _ _ hy, eqGuard, binOp, Op.intCmp]
theorem Ev.not {c : Bool} (hx : look e x = some (.bool c)) : Ev P e (.unOp .not T x) w (.bool (!c)) :=
  fun w' _ ρ hρ o ho => by simp [execOp, ho, hρ _ _ hx, Op.unary]
theorem Ev.notD {p : Prop} [Decidable p] (hx : look e x = some (.bool (decide p))) : Ev P e (.unOp .not T x) w (.bool (decide (¬ p))) :=
  fun w' _ ρ hρ o ho => by simp [execOp, ho, hρ _ _ hx, Op.unary]
/-- a shift to the right by a constant -/
theorem Ev.shrC (n : Nat) (m : Int) {k' : IntKind} (hx : look e x = some (.int k a)) (hy : look e y = some (.int k' (n : Int))) (hn : n ≤ k.bits) (hm : (2 : Int) ^ n = m) : Ev P e (.binOp .shr T x y T') w (.int k (a / m)) :=
  fun w' _ ρ hρ o ho => by
    subst hm
    have h1 : ¬ ((n : Int) < 0) := by omega
    simp [execOp, ho, hρ _ _ hx, hρ _ _ hy, eqGuard, binOp, Op.shift, h1, Nat.min_eq_left hn]
    exact Int.fdiv_eq_ediv_of_nonneg _ (by exact Int.pow_nonneg (by omega))
/-- a mask of the lowest bits -/
theorem Ev.maskC (n : Nat) (c m : Int) (hx : look e x = some (i64 a)) (hy : look e y = some (i64 c)) (ha : 0 ≤ a ∧ a ≤ 9223372036854775807) (hn : n < 63) (hc : c = ((2 ^ n - 1 : Nat) : Int)) (hm : ((2 ^ n : Nat) : Int) = m) : Ev P e (.binOp .and T x y T') w (i64 (a % m)) :=
  fun w' _ ρ hρ o ho => by
    subst hm
    subst hc
    obtain ⟨q, rfl⟩ := Int.eq_ofNat_of_zero_le ha.1
    have hp : 2 ^ n ≤ 2 ^ 62 := Nat.pow_le_pow_right (by omega) (by omega)
    have hpos : 0 < 2 ^ n := Nat.pow_pos (by omega)
    have hlt : q % 2 ^ n < 2 ^ n := Nat.mod_lt _ hpos
    have h1 : Op.intBits .and .i64 (q : Int) ((2 ^ n - 1 : Nat) : Int) = Sem.pure (.int .i64 ((q : Int) % ((2 ^ n : Nat) : Int))) := by
      show Sem.pure (Value.int .i64 (IntKind.i64.wrap ((BitVec.ofInt 64 (q : Int) &&& BitVec.ofInt 64 ((2 ^ n - 1 : Nat) : Int)).toNat))) = _
      have h2 : (BitVec.ofInt 64 (q : Int) &&& BitVec.ofInt 64 ((2 ^ n - 1 : Nat) : Int)).toNat = q % 2 ^ n := by
        rw [BitVec.ofInt_natCast, BitVec.ofInt_natCast, BitVec.toNat_and, BitVec.toNat_ofNat, BitVec.toNat_ofNat, Nat.mod_eq_of_lt (by omega), Nat.mod_eq_of_lt (by omega), Nat.and_two_pow_sub_one_eq_mod]
      rw [h2, IntWalk.i64_in _ (by omega)]
      simp
    simp [execOp, ho, hρ _ _ hx, hρ _ _ hy, eqGuard, binOp, h1]
end

/-! small unsigned numbers -/
theorem intBits_and8 (a b : UInt8) : Op.intBits .and .u8 (a.toNat : Int) (b.toNat : Int) = Sem.pure (u8 (a &&& b)) := by
  show Sem.pure (Value.int .u8 (IntKind.u8.wrap ((BitVec.ofInt 8 (a.toNat : Int) &&& BitVec.ofInt 8 (b.toNat : Int)).toNat))) = _
  rw [BitVec.ofInt_natCast, BitVec.ofInt_natCast, IntWalk.u8_in _ (by omega)]
  simp [u8]
theorem intBits_or8 (a b : UInt8) : Op.intBits .or .u8 (a.toNat : Int) (b.toNat : Int) = Sem.pure (u8 (a ||| b)) := by
  show Sem.pure (Value.int .u8 (IntKind.u8.wrap ((BitVec.ofInt 8 (a.toNat : Int) ||| BitVec.ofInt 8 (b.toNat : Int)).toNat))) = _
  rw [BitVec.ofInt_natCast, BitVec.ofInt_natCast, IntWalk.u8_in _ (by omega)]
  simp [u8]
theorem intBits_andNot8 (a b : UInt8) : Op.intBits .andNot .u8 (a.toNat : Int) (b.toNat : Int) = Sem.pure (u8 (a &&& ~~~b)) := by
  show Sem.pure (Value.int .u8 (IntKind.u8.wrap ((BitVec.ofInt 8 (a.toNat : Int) &&& ~~~ BitVec.ofInt 8 (b.toNat : Int)).toNat))) = _
  rw [BitVec.ofInt_natCast, BitVec.ofInt_natCast, IntWalk.u8_in _ (by omega)]
  simp [u8]
theorem intBits_and32 (a b : UInt32) : Op.intBits .and .u32 (a.toNat : Int) (b.toNat : Int) = Sem.pure (u32 (a &&& b)) := by
  show Sem.pure (Value.int .u32 (IntKind.u32.wrap ((BitVec.ofInt 32 (a.toNat : Int) &&& BitVec.ofInt 32 (b.toNat : Int)).toNat))) = _
  rw [BitVec.ofInt_natCast, BitVec.ofInt_natCast, IntWalk.u32_in _ (by omega)]
  simp [u32]
theorem intBits_or32 (a b : UInt32) : Op.intBits .or .u32 (a.toNat : Int) (b.toNat : Int) = Sem.pure (u32 (a ||| b)) := by
  show Sem.pure (Value.int .u32 (IntKind.u32.wrap ((BitVec.ofInt 32 (a.toNat : Int) ||| BitVec.ofInt 32 (b.toNat : Int)).toNat))) = _
  rw [BitVec.ofInt_natCast, BitVec.ofInt_natCast, IntWalk.u32_in _ (by omega)]
  simp [u32]
theorem intBits_xor32 (a b : UInt32) : Op.intBits .xor .u32 (a.toNat : Int) (b.toNat : Int) = Sem.pure (u32 (a ^^^ b)) := by
  show Sem.pure (Value.int .u32 (IntKind.u32.wrap ((BitVec.ofInt 32 (a.toNat : Int) ^^^ BitVec.ofInt 32 (b.toNat : Int)).toNat))) = _
  rw [BitVec.ofInt_natCast, BitVec.ofInt_natCast, IntWalk.u32_in _ (by omega)]
  simp [u32]
theorem Ev.and8 {a b : UInt8} (hx : look e x = some (u8 a)) (hy : look e y = some (u8 b)) : Ev P e (.binOp .and T x y T') w (u8 (a &&& b)) :=
  fun w' _ ρ hρ o ho => by simp [execOp, ho, hρ _ _ hx, hρ _ _ hy, eqGuard, binOp, intBits_and8]
theorem Ev.or8 {a b : UInt8} (hx : look e x = some (u8 a)) (hy : look e y = some (u8 b)) : Ev P e (.binOp .or T x y T') w (u8 (a ||| b)) :=
  fun w' _ ρ hρ o ho => by simp [execOp, ho, hρ _ _ hx, hρ _ _ hy, eqGuard, binOp, intBits_or8]
theorem Ev.andNot8 {a b : UInt8} (hx : look e x = some (u8 a)) (hy : look e y = some (u8 b)) : Ev P e (.binOp .andNot T x y T') w (u8 (a &&& ~~~b)) :=
  fun w' _ ρ hρ o ho => by simp [execOp, ho, hρ _ _ hx, hρ _ _ hy, eqGuard, binOp, intBits_andNot8]
theorem Ev.and32 {a b : UInt32} (hx : look e x = some (u32 a)) (hy : look e y = some (u32 b)) : Ev P e (.binOp .and T x y T') w (u32 (a &&& b)) :=
  fun w' _ ρ hρ o ho => by simp [execOp, ho, hρ _ _ hx, hρ _ _ hy, eqGuard, binOp, intBits_and32]
theorem Ev.or32 {a b : UInt32} (hx : look e x = some (u32 a)) (hy : look e y = some (u32 b)) : Ev P e (.binOp .or T x y T') w (u32 (a ||| b)) :=
  fun w' _ ρ hρ o ho => by simp [execOp, ho, hρ _ _ hx, hρ _ _ hy, eqGuard, binOp, intBits_or32]
theorem Ev.xor32 {a b : UInt32} (hx : look e x = some (u32 a)) (hy : look e y = some (u32 b)) : Ev P e (.binOp .xor T x y T') w (u32 (a ^^^ b)) :=
  fun w' _ ρ hρ o ho => by simp [execOp, ho, hρ _ _ hx, hρ _ _ hy, eqGuard, binOp, intBits_xor32]
theorem Ev.com32 {a : UInt32} (hx : look e x = some (u32 a)) : Ev P e (.unOp .xor T x) w (u32 (~~~a)) :=
  fun w' _ ρ hρ o ho => by
    have h1 := intBits_xor32 4294967295 a
    have h2 : (4294967295 : UInt32) ^^^ a = ~~~a := by
      apply UInt32.toBitVec_inj.1
      simp [UInt32.toBitVec_xor, UInt32.toBitVec_not, BitVec.not_def]
    rw [h2] at h1
    have h3 : ((4294967295 : UInt32).toNat : Int) = IntKind.u32.max := rfl
    rw [h3] at h1
    simp [execOp, ho, hρ _ _ hx, Op.unary, IntKind.signed, h1]
theorem Ev.add32 {a b : UInt32} (hx : look e x = some (u32 a)) (hy : look e y = some (u32 b)) : Ev P e (.binOp .add T x y T') w (u32 (a + b)) :=
  fun w' _ ρ hρ o ho => by
    simp [execOp, ho, hρ _ _ hx, hρ _ _ hy, eqGuard, binOp, Op.intArith, IntKind.wrap_u32]
theorem Ev.rem32 {a b : UInt32} (hx : look e x = some (u32 a)) (hy : look e y = some (u32 b)) (hb : 1 ≤ b.toNat) : Ev P e (.binOp .rem T x y T') w (u32 (a % b)) :=
  (Ev.rem hx hy (by omega)).cast (by simp [u32])
theorem Ev.quo32 {a b : UInt32} (hx : look e x = some (u32 a)) (hy : look e y = some (u32 b)) (hb : 1 ≤ b.toNat) : Ev P e (.binOp .quo T x y T') w (u32 (a / b)) :=
  (Ev.quoK hx hy (by omega) (by
    have h1 := a.toNat_lt
    have h2 : (a.toNat : Int) / (b.toNat : Int) = ((a.toNat / b.toNat : Nat) : Int) := by simp
    have h3 : a.toNat / b.toNat ≤ a.toNat := Nat.div_le_self _ _
    rw [h2]
    generalize a.toNat / b.toNat = q at h3 ⊢
    exact IntWalk.u32_in _ (by omega))).cast (by simp [u32])
theorem Ev.quo8 {a b : UInt8} (hx : look e x = some (u8 a)) (hy : look e y = some (u8 b)) (hb : 1 ≤ b.toNat) : Ev P e (.binOp .quo T x y T') w (u8 (a / b)) :=
  (Ev.quoK hx hy (by omega) (by
    have h1 := a.toNat_lt
    have h2 : (a.toNat : Int) / (b.toNat : Int) = ((a.toNat / b.toNat : Nat) : Int) := by simp
    have h3 : a.toNat / b.toNat ≤ a.toNat := Nat.div_le_self _ _
    rw [h2]
    generalize a.toNat / b.toNat = q at h3 ⊢
    exact IntWalk.u8_in _ (by omega))).cast (by simp [u8])
theorem Ev.rem8 {a b : UInt8} (hx : look e x = some (u8 a)) (hy : look e y = some (u8 b)) (hb : 1 ≤ b.toNat) : Ev P e (.binOp .rem T x y T') w (u8 (a % b)) :=
  (Ev.rem hx hy (by omega)).cast (by simp [u8])
theorem Ev.shr32 (n : Nat) {a : UInt32} {k' : IntKind} (hx : look e x = some (u32 a)) (hy : look e y = some (.int k' (n : Int))) (hn : n < 32) : Ev P e (.binOp .shr T x y T') w (u32 (a >>> UInt32.ofNat n)) :=
  (Ev.shrC n (2 ^ n) hx hy (by show n ≤ 32; omega) rfl).cast (by
    simp only [u32, UInt32.toNat_shiftRight, Nat.shiftRight_eq_div_pow]
    rw [show (UInt32.ofNat n).toNat % 32 = n by simp; omega]
    simp)
theorem Ev.shr8 (n : Nat) {a : UInt8} {k' : IntKind} (hx : look e x = some (u8 a)) (hy : look e y = some (.int k' (n : Int))) (hn : n < 8) : Ev P e (.binOp .shr T x y T') w (u8 (a >>> UInt8.ofNat n)) :=
  (Ev.shrC n (2 ^ n) hx hy (by show n ≤ 8; omega) rfl).cast (by
    simp only [u8, UInt8.toNat_shiftRight, Nat.shiftRight_eq_div_pow]
    rw [show (UInt8.ofNat n).toNat % 8 = n by simp; omega]
    simp)
theorem Ev.shl8 {a : UInt8} {k' : IntKind} (n : Nat) (hx : look e x = some (u8 a)) (hy : look e y = some (.int k' (n : Int))) (hn : n < 8) : Ev P e (.binOp .shl T x y T') w (u8 (a <<< UInt8.ofNat n)) :=
  fun w' _ ρ hρ o ho => by
    have h1 : ¬ ((n : Int) < 0) := by omega
    have h2 : min n IntKind.u8.bits = n := Nat.min_eq_left (by show n ≤ 8; omega)
    have h3 : IntKind.u8.wrap ((a.toNat : Int) * 2 ^ n) = ((a <<< UInt8.ofNat n).toNat : Int) := by
      rw [IntKind.wrap_u8, UInt8.toNat_shiftLeft, Nat.shiftLeft_eq, show (UInt8.ofNat n).toNat % 8 = n by simp; omega]
      have h4 : ((a.toNat * 2 ^ n : Nat) : Int) = (a.toNat : Int) * 2 ^ n := by simp
      rw [← h4]
      omega
    have h5 : Op.shift .shl .u8 (a.toNat : Int) k' (n : Int) = Sem.pure (u8 (a <<< UInt8.ofNat n)) := by
      unfold Op.shift
      rw [if_neg h1]
      simp only [Int.toNat_natCast, h2, h3]
      rfl
    simp [execOp, ho, hρ _ _ hx, hρ _ _ hy, eqGuard, binOp, h5]
    rw [h3]
    simp
theorem Ev.sub8 {a b : UInt8} (hx : look e x = some (u8 a)) (hy : look e y = some (u8 b)) : Ev P e (.binOp .sub T x y T') w (u8 (a - b)) :=
  fun w' _ ρ hρ o ho => by
    simp [execOp, ho, hρ _ _ hx, hρ _ _ hy, eqGuard, binOp, Op.intArith, IntKind.wrap_u8, UInt8.toNat_sub]
    have := a.toNat_lt
    have := b.toNat_lt
    omega

/-! conversions of numbers -/
theorem Ev.conv {k k' : IntKind} {a : Int} (hT : P.underlying T' = some (.int k')) {d : TypeDesc} (hS : P.underlying T = some d) (hx : look e x = some (.int k a)) : Ev P e (.convert T T' x) w (.int k' (k'.wrap a)) :=
  fun w' _ ρ hρ o ho => by simp [execOp, ho, hρ _ _ hx, convert, run_underlying hT, run_underlying hS, Conv.intToInt]
theorem Ev.conv8_32 {d : TypeDesc} {a : UInt8} (hT : P.underlying T' = some (.int .u32)) (hS : P.underlying T = some d) (hx : look e x = some (u8 a)) : Ev P e (.convert T T' x) w (u32 a.toUInt32) :=
  (Ev.conv hT hS hx).cast (by have := a.toNat_lt; rw [IntWalk.u32_in _ (by omega)]; simp)
theorem Ev.convTo {k k' : IntKind} {a : Int} {d : TypeDesc} (hT : P.underlying T' = some (.int k')) (hS : P.underlying T = some d) (hx : look e x = some (.int k a)) (hr : k'.wrap a = a) : Ev P e (.convert T T' x) w (.int k' a) := (Ev.conv hT hS hx).cast (by rw [hr])
theorem Ev.convU {k : IntKind} {a : Int} {d : TypeDesc} (hT : P.underlying T' = some (.int .u64)) (hS : P.underlying T = some d) (hx : look e x = some (.int k a)) (hr : 0 ≤ a ∧ a ≤ 18446744073709551615) : Ev P e (.convert T T' x) w (.int .u64 a) := .convTo hT hS hx (IntWalk.u64_in _ hr)
theorem Ev.convI {k : IntKind} {a : Int} {d : TypeDesc} (hT : P.underlying T' = some (.int .i64)) (hS : P.underlying T = some d) (hx : look e x = some (.int k a)) (hr : -9223372036854775808 ≤ a ∧ a ≤ 9223372036854775807) : Ev P e (.convert T T' x) w (i64 a) := .convTo hT hS hx (IntWalk.i64_in _ hr)
theorem Ev.conv32_i {d : TypeDesc} {a : UInt32} (hT : P.underlying T' = some (.int .i64)) (hS : P.underlying T = some d) (hx : look e x = some (u32 a)) : Ev P e (.convert T T' x) w (i64 a.toNat) :=
  (Ev.conv hT hS hx).cast (by have := a.toNat_lt; rw [IntWalk.i64_in _ (by omega)])
theorem Ev.convi_32 {d : TypeDesc} {a : Int} (hT : P.underlying T' = some (.int .u32)) (hS : P.underlying T = some d) (hx : look e x = some (i64 a)) (ha : 0 ≤ a ∧ a ≤ 4294967295) : Ev P e (.convert T T' x) w (u32 (UInt32.ofNat a.toNat)) :=
  (Ev.conv hT hS hx).cast (by rw [IntWalk.u32_in _ ha]; simp; omega)

/-! texts and lengths -/
theorem Ev.lenS {l : Bs} (hT : P.underlying T = some .string) (hx : look e x = some (str l)) : Ev P e (.call { callee := .builtin .len, args := #[x], argTypes := #[T] }) w (i64 l.length) :=
  fun w' _ ρ hρ o ho => by simp [execOp, ho, resolve, invoke, builtin, hρ _ _ hx, Builtin.len_, run_underlying hT, goInt, bs_size]
theorem Ev.len {E : TypeId} {a : Option Addr} {n c : Nat} (hT : P.underlying T = some (.slice E)) (hx : look e x = some (.slice a n c)) : Ev P e (.call { callee := .builtin .len, args := #[x], argTypes := #[T] }) w (i64 n) :=
  fun w' _ ρ hρ o ho => by simp [execOp, ho, resolve, invoke, builtin, hρ _ _ hx, Builtin.len_, run_underlying hT, goInt]
theorem Ev.addS {a b : Bs} (hx : look e x = some (str a)) (hy : look e y = some (str b)) (h : a.length + b.length ≤ 9223372036854775807) : Ev P e (.binOp .add T x y T') w (str (a ++ b)) :=
  fun w' _ ρ hρ o ho => by
    have h1 : ¬ ((((bs a).size + (bs b).size : Nat) : Int) > IntKind.i64.max) := by
      rw [bs_size, bs_size]; show ¬ (_ > (9223372036854775807 : Int)); omega
    simp only [execOp, ho, hρ _ _ hx, hρ _ _ hy, Sem.run_bind, eqGuard, binOp, Op.stringOp, h1, if_false, bs_append]
    simp
theorem Ev.eqB {a b : Bool} (hx : look e x = some (.bool a)) (hy : look e y = some (.bool b)) (hT : P.underlying T = some .bool) : Ev P e (.binOp .eql T x y T') w (.bool (a == b)) :=
  fun w' _ ρ hρ o ho => by
    simp [execOp, ho, hρ _ _ hx, hρ _ _ hy, eqGuard, binOp, run_equal_bool w' _ a b hT]
theorem Ev.neB {a b : Bool} (hx : look e x = some (.bool a)) (hy : look e y = some (.bool b)) (hT : P.underlying T = some .bool) : Ev P e (.binOp .neq T x y T') w (.bool (a != b)) :=
  fun w' _ ρ hρ o ho => by
    simp [execOp, ho, hρ _ _ hx, hρ _ _ hy, eqGuard, binOp, run_equal_bool w' _ a b hT]
    cases a <;> cases b <;> rfl
theorem Ev.eqNil {E : TypeId} {a : Option Addr} {n c : Nat} (hx : look e x = some (.slice a n c)) (hy : look e y = some (.slice none 0 0)) (hT : P.underlying T = some (.slice E)) : Ev P e (.binOp .eql T x y T') w (.bool a.isNone) :=
  fun w' _ ρ hρ o ho => by
    simp [execOp, ho, hρ _ _ hx, hρ _ _ hy, eqGuard, binOp, run_equal_slice_nil w' _ E a n c hT]
theorem Ev.neNil {E : TypeId} {a : Option Addr} {n c : Nat} (hx : look e x = some (.slice a n c)) (hy : look e y = some (.slice none 0 0)) (hT : P.underlying T = some (.slice E)) : Ev P e (.binOp .neq T x y T') w (.bool !a.isNone) :=
  fun w' _ ρ hρ o ho => by
    simp [execOp, ho, hρ _ _ hx, hρ _ _ hy, eqGuard, binOp, run_equal_slice_nil w' _ E a n c hT]
theorem Ev.eqS {a b : Bs} (hx : look e x = some (str a)) (hy : look e y = some (str b)) : Ev P e (.binOp .eql T x y T') w (.bool (decide (a = b))) :=
  fun w' _ ρ hρ o ho => by
    simp [execOp, ho, hρ _ _ hx, hρ _ _ hy, eqGuard, binOp, Op.stringOp, bs_toList]
    by_cases h : a = b <;> simp [h]
theorem Ev.neS {a b : Bs} (hx : look e x = some (str a)) (hy : look e y = some (str b)) : Ev P e (.binOp .neq T x y T') w (.bool (decide (¬ a = b))) :=
  fun w' _ ρ hρ o ho => by
    simp [execOp, ho, hρ _ _ hx, hρ _ _ hy, eqGuard, binOp, Op.stringOp, bs_toList]
    by_cases h : a = b <;> simp [h]
end
end Go.Proofs.YtpfehnopghffjaaGreatDoor
/-
  Memory: rows of cells, blocks of a call's own, values that read as data. No program in sight.
-/
namespace Go.Proofs.YtpfehnopghffjaaGreatDoor
open Go

theorem add_none (b o n : Nat) : (⟨b, o, none⟩ : Addr).add n = ⟨b, o + n, none⟩ := by
  unfold Addr.add; split <;> simp_all

/-! ### rows of cells -/
def Cells (w : World) (b o : Nat) (cs : List Value) : Prop := ∀ j v, cs[j]? = some v → w.cell? ⟨b, o + j, none⟩ = some v
theorem Cells.nil (w : World) (b o : Nat) : Cells w b o [] := fun j v h => by simp at h
theorem Cells.ext {S : Nat → Prop} {w w' : World} {b o : Nat} {cs : List Value} (h : Cells w b o cs) (hx : Ext S w w') (hs : ¬ S b) : Cells w' b o cs :=
  fun j v hj => hx.cell (h j v hj) hs
theorem Cells.keep {w w' : World} {b o : Nat} {cs : List Value} (h : Cells w b o cs) (hb : w'.heap[b]? = w.heap[b]?) : Cells w' b o cs :=
  fun j v hj => (World.cell?_of_block (w := w) (a := ⟨b, o + j, none⟩) hb).trans (h j v hj)
theorem Cells.drop {w : World} {b o : Nat} {cs : List Value} (h : Cells w b o cs) (n : Nat) : Cells w b (o + n) (cs.drop n) := fun j v hj => by
  rw [List.getElem?_drop] at hj
  have := h (n + j) v hj
  rwa [show o + (n + j) = o + n + j by omega] at this
theorem Cells.take {w : World} {b o : Nat} {cs : List Value} (h : Cells w b o cs) (n : Nat) : Cells w b o (cs.take n) := fun j v hj => by
  rw [List.getElem?_take] at hj
  split at hj
  · exact h j v hj
  · cases hj
theorem Cells.append {w : World} {b o : Nat} {xs ys : List Value} (h : Cells w b o xs) (h' : Cells w b (o + xs.length) ys) : Cells w b o (xs ++ ys) := fun j v hj => by
  by_cases hlt : j < xs.length
  · exact h j v (by rwa [List.getElem?_append_left hlt] at hj)
  · rw [List.getElem?_append_right (by omega)] at hj
    have := h' _ v hj
    rwa [show o + xs.length + (j - xs.length) = o + j by omega] at this
theorem Cells.left {w : World} {b o : Nat} {xs ys : List Value} (h : Cells w b o (xs ++ ys)) : Cells w b o xs := by have := h.take xs.length; rwa [List.take_left] at this
theorem Cells.right {w : World} {b o : Nat} {xs ys : List Value} (h : Cells w b o (xs ++ ys)) : Cells w b (o + xs.length) ys := by have := h.drop xs.length; rwa [List.drop_left] at this
theorem Cells.load {w w' : World} {b o : Nat} {cs : List Value} (h : Cells w b o cs) (P : Program) (hx : Ext (fun _ => False) w w') : (loadCells ⟨b, o, none⟩ cs.length).run P w' = .ok cs.toArray w' :=
  run_loadCells_list w' ⟨b, o, none⟩ cs (fun j v hj => by rw [add_none]; exact h.ext hx (fun x => x) j v hj)

/-! ### blocks of the call's own -/
def Blk (w : World) (b : Nat) (E : TypeId) (cs : List Value) : Prop := ∃ fr : Nat × Nat, w.heap[b]? = some (.cells cs.toArray E fr) ∧ cs.length ≤ fr.1 ∨ (w.heap[b]? = some (.cells cs.toArray E fr) ∧ fr.2 ≤ fr.1)
theorem Blk.heap {w : World} {b : Nat} {E : TypeId} {cs : List Value} (h : Blk w b E cs) : ∃ fr : Nat × Nat, w.heap[b]? = some (.cells cs.toArray E fr) ∧ ∀ i, i < cs.length → ¬ (fr.1 ≤ i ∧ i < fr.2) := by
  obtain ⟨fr, ⟨h1, h2⟩ | ⟨h1, h2⟩⟩ := h
  · exact ⟨fr, h1, fun i hi => by omega⟩
  · exact ⟨fr, h1, fun i hi => by omega⟩
theorem Blk.lt {w : World} {b : Nat} {E : TypeId} {cs : List Value} (h : Blk w b E cs) : b < w.heap.size := by
  obtain ⟨fr, h1, _⟩ := h.heap
  exact (Array.getElem?_eq_some_iff.1 h1).1
theorem Blk.cell {w : World} {b : Nat} {E : TypeId} {cs : List Value} (h : Blk w b E cs) (i : Nat) : w.cell? ⟨b, i, none⟩ = cs[i]? := by
  obtain ⟨fr, h1, _⟩ := h.heap
  simp [World.cell?, h1]
theorem Blk.cells {w : World} {b : Nat} {E : TypeId} {cs : List Value} (h : Blk w b E cs) : Cells w b 0 cs := fun j v hj => by rw [h.cell, Nat.zero_add]; exact hj
theorem Blk.cellsAt {w : World} {b : Nat} {E : TypeId} {cs : List Value} (h : Blk w b E cs) (o : Nat) : Cells w b o (cs.drop o) := by have := h.cells.drop o; rwa [Nat.zero_add] at this
theorem Blk.thawed {w : World} {b : Nat} {E : TypeId} {cs : List Value} (h : Blk w b E cs) (i : Nat) (hi : i < cs.length) : w.frozen? ⟨b, i, none⟩ = false := by
  obtain ⟨fr, h1, h2⟩ := h.heap
  have := h2 i hi
  simp only [World.frozen?, h1]
  simp
  omega
theorem Blk.keep {w w' : World} {b : Nat} {E : TypeId} {cs : List Value} (h : Blk w b E cs) (hb : w'.heap[b]? = w.heap[b]?) : Blk w' b E cs := by
  unfold Blk at *; rw [hb]; exact h
theorem Blk.ext {S : Nat → Prop} {w w' : World} {b : Nat} {E : TypeId} {cs : List Value} (h : Blk w b E cs) (hx : Ext S w w') (hs : ¬ S b) : Blk w' b E cs := h.keep (hx.block b h.lt hs)
theorem Blk.alloc (w : World) (cs : List Value) (E : TypeId) : Blk (w.alloc (.cells cs.toArray E)) w.heap.size E cs :=
  ⟨(0, 0), .inr ⟨heap_alloc_new w _, Nat.le_refl _⟩⟩
theorem Blk.set {w : World} {b : Nat} {E : TypeId} {cs : List Value} (h : Blk w b E cs) (i : Nat) (u : Value) : Blk (w.setCell ⟨b, i, none⟩ u) b E (cs.set i u) := by
  obtain ⟨fr, h⟩ := h
  have hh : ∀ (h1 : w.heap[b]? = some (.cells cs.toArray E fr)), (w.setCell ⟨b, i, none⟩ u).heap[b]? = some (.cells (cs.set i u).toArray E fr) := fun h1 => by
    simp only [World.setCell, Array.getElem?_modify, if_true, h1]
    simp
  refine ⟨fr, ?_⟩
  rcases h with ⟨h1, h2⟩ | ⟨h1, h2⟩
  · exact .inl ⟨hh h1, by simpa using h2⟩
  · exact .inr ⟨hh h1, h2⟩

/-! storing -/
theorem storeVar_one {P : Program} {w : World} {b i : Nat} {E T : TypeId} {cs : List Value} (h : Blk w b E cs) (hi : i < cs.length) {u : Value} (hu : u.oneCell' = true) {ti : TypeInfo} (hT : P.info? T = some ti) (hs : ti.size = 1) :
    (storeVar T ⟨b, i, none⟩ u).run P w = .ok () (w.setCell ⟨b, i, none⟩ u) := by
  have hc : u.cells = #[u] := by cases u <;> simp_all [Value.cells, Value.oneCell']
  have hcell : ∃ x, w.cell? ⟨b, i, none⟩ = some x := ⟨cs[i], by rw [h.cell]; simp [hi]⟩
  obtain ⟨x, hx⟩ := hcell
  simp [storeVar, sizeOf, typeInfo, hT, hs, hc, storeCells, add_none, run_store, hu, hx, h.thawed i hi]
/-- cells written one behind the other -/
def putCells (w : World) (b : Nat) : Nat → List Value → World
  | _, [] => w
  | o, v :: r => putCells (w.setCell ⟨b, o, none⟩ v) b (o + 1) r
def splice (cs : List Value) : Nat → List Value → List Value
  | _, [] => cs
  | o, v :: r => splice (cs.set o v) (o + 1) r
theorem splice_length : ∀ (vs cs : List Value) (o : Nat), (splice cs o vs).length = cs.length
  | [], _, _ => rfl
  | v :: r, cs, o => by rw [splice, splice_length r]; simp
theorem Blk.put : ∀ (vs : List Value) {w : World} {b : Nat} {E : TypeId} {cs : List Value} (o : Nat), Blk w b E cs → Blk (putCells w b o vs) b E (splice cs o vs)
  | [], _, _, _, _, _, h => h
  | v :: r, _, _, _, _, o, h => Blk.put r (o + 1) (h.set o v)
theorem putCells_ext : ∀ (vs : List Value) (w : World) (b o : Nat), Ext (· = b) w (putCells w b o vs)
  | [], w, b, o => .refl w
  | v :: r, w, b, o => (Ext.setCell (S := (· = b)) w (p := ⟨b, o, none⟩) rfl v).trans (putCells_ext r _ b (o + 1))
theorem putCells_size : ∀ (vs : List Value) (w : World) (b o : Nat), (putCells w b o vs).heap.size = w.heap.size
  | [], _, _, _ => rfl
  | v :: r, w, b, o => by rw [putCells, putCells_size r]; simp
theorem run_putCells {P : Program} {b : Nat} {E : TypeId} : ∀ (vs : List Value) {w : World} {cs : List Value} (o i : Nat), Blk w b E cs → o + i + vs.length ≤ cs.length → (∀ v ∈ vs, v.oneCell' = true) →
    (storeCells ⟨b, o, none⟩ vs i).run P w = .ok () (putCells w b (o + i) vs)
  | [], _, _, _, _, _, _, _ => rfl
  | v :: r, w, cs, o, i, h, hl, h1 => by
    have hi : o + i < cs.length := by simp at hl; omega
    have hx : w.cell? ⟨b, o + i, none⟩ = some cs[o + i] := by rw [h.cell]; simp [hi]
    have ih := run_putCells (P := P) r o (i + 1) (h.set (o + i) v) (by simp at hl ⊢; omega) (fun u hu => h1 u (by simp [hu]))
    have hst : (store ⟨b, o + i, none⟩ v).run P w = .ok () (w.setCell ⟨b, o + i, none⟩ v) := by
      simp [run_store, h1 v (by simp), hx, h.thawed _ hi]
    simp only [storeCells, add_none, Sem.run_bind, hst, Result.andThen_ok, ih, putCells]
    rfl
theorem splice_eq : ∀ (vs cs : List Value) (o : Nat), o + vs.length ≤ cs.length → splice cs o vs = cs.take o ++ vs ++ cs.drop (o + vs.length)
  | [], cs, o, _ => by simp [splice]
  | v :: r, cs, o, h => by
    have hl : o < cs.length := by simp at h; omega
    rw [splice, splice_eq r _ _ (by simp at h ⊢; omega)]
    have h1 : (cs.set o v).take (o + 1) = cs.take o ++ [v] := by
      rw [List.take_succ_eq_append_getElem (by simpa using hl), List.take_set_of_le (Nat.le_refl _)]
      simp
    rw [h1, List.drop_set_of_lt (by omega)]
    simp only [List.length_cons, List.append_assoc, List.cons_append, List.nil_append]
    rw [show o + 1 + r.length = o + (r.length + 1) by omega]

/-! ### operations on memory -/
def sizeIs (P : Program) (T : TypeId) (n : Nat) : Prop := (P.info? T).map (·.size) = some n
theorem sizeIs.run {P : Program} {T : TypeId} {n : Nat} (h : sizeIs P T n) (w : World) : (sizeOf T).run P w = .ok n w := by
  unfold sizeIs at h
  cases hi : P.info? T with
  | none => simp [hi] at h
  | some i => simp [hi] at h; simp [sizeOf, typeInfo, hi, h]
def aggD : TypeDesc → Bool
  | .struct _ | .array _ _ => true
  | _ => false
theorem isAgg_run {P : Program} {T : TypeId} {d : TypeDesc} (h : P.underlying T = some d) (w : World) : (isAgg T).run P w = .ok (aggD d) w := by
  simp only [isAgg, Sem.run_bind, run_underlying h, Result.andThen_ok]
  cases d <;> rfl
section
variable {P : Program} {e : Env} {w : World} {x y z : Operand} {T T' : TypeId} {v u : Value}

theorem Ev.load {b o : Nat} {d : TypeDesc} (hx : look e x = some (.pointer (some ⟨b, o, none⟩))) (hT : P.underlying T = some d) (hd : aggD d = false) (hc : w.cell? ⟨b, o, none⟩ = some v) : Ev P e (.load T x) w v :=
  fun w' hw ρ hρ op ho => by
    have hc' := hw.cell hc (fun x => x)
    simp [execOp, ho, hρ _ _ hx, Instr.loadAt, Instr.sureAddr, loadVar, isAgg_run hT, hd, hc']
theorem Ev.loadA {b o n : Nat} {d : TypeDesc} {cs : List Value} (hx : look e x = some (.pointer (some ⟨b, o, none⟩))) (hT : P.underlying T = some d) (hd : aggD d = true) (hs : sizeIs P T n) (hn : cs.length = n) (hc : Cells w b o cs) : Ev P e (.load T x) w (.agg cs.toArray) :=
  fun w' hw ρ hρ op ho => by
    subst hn
    simp [execOp, ho, hρ _ _ hx, Instr.loadAt, Instr.sureAddr, loadVar, isAgg_run hT, hd, hs.run, hc.load P hw]
theorem Ev.fieldAddr {b o i n : Nat} {fs : Array Field} {f : Field} (hx : look e x = some (.pointer (some ⟨b, o, none⟩))) (hT : P.underlying T = some (.struct fs)) (hf : fs[i]? = some f) (hs : sizeIs P f.type (n + 1)) : Ev P e (.fieldAddr T x i) w (.pointer (some ⟨b, o + f.offset, none⟩)) :=
  fun w' hw ρ hρ op ho => by
    simp [execOp, ho, hρ _ _ hx, Instr.fieldAt, run_underlying hT, hf, Instr.sureAddr, fieldPlace, hs.run, add_none]
theorem Ev.indexAddr {b o n cap s : Nat} {k : IntKind} {i : Int} {E : TypeId} (hx : look e x = some (.slice (some ⟨b, o, none⟩) n cap)) (hy : look e y = some (.int k i)) (hT : P.underlying T = some (.slice E)) (hs : sizeIs P E s) (hi : 0 ≤ i ∧ i < n) :
    Ev P e (.indexAddr T x y) w (.pointer (some ⟨b, o + i.toNat * s, none⟩)) :=
  fun w' hw ρ hρ op ho => by
    simp [execOp, ho, hρ _ _ hx, hρ _ _ hy, Instr.indexAt, asIntOf, run_underlying hT, hi.1, hi.2, hs.run, add_none]
theorem Ev.indexAddrA {b o n s : Nat} {k : IntKind} {i : Int} {E : TypeId} (hx : look e x = some (.pointer (some ⟨b, o, none⟩))) (hy : look e y = some (.int k i)) (hT : P.underlying T = some (.array n E)) (hs : sizeIs P E s) (hi : 0 ≤ i ∧ i < n) :
    Ev P e (.indexAddr T x y) w (.pointer (some ⟨b, o + i.toNat * s, none⟩)) :=
  fun w' hw ρ hρ op ho => by
    simp [execOp, ho, hρ _ _ hx, hρ _ _ hy, Instr.indexAt, asIntOf, run_underlying hT, Instr.sureAddr, hi.1, hi.2, hs.run, add_none]
theorem Ev.indexAddr1 {b o n cap : Nat} {k : IntKind} {i : Int} {E : TypeId} (hx : look e x = some (.slice (some ⟨b, o, none⟩) n cap)) (hy : look e y = some (.int k i)) (hT : P.underlying T = some (.slice E)) (hs : sizeIs P E 1) (hi : 0 ≤ i ∧ i < n) :
    Ev P e (.indexAddr T x y) w (.pointer (some ⟨b, o + i.toNat, none⟩)) := (Ev.indexAddr hx hy hT hs hi).cast (by rw [Nat.mul_one])
theorem Ev.indexAddrA1 {b o n : Nat} {k : IntKind} {i : Int} {E : TypeId} (hx : look e x = some (.pointer (some ⟨b, o, none⟩))) (hy : look e y = some (.int k i)) (hT : P.underlying T = some (.array n E)) (hs : sizeIs P E 1) (hi : 0 ≤ i ∧ i < n) :
    Ev P e (.indexAddr T x y) w (.pointer (some ⟨b, o + i.toNat, none⟩)) := (Ev.indexAddrA hx hy hT hs hi).cast (by rw [Nat.mul_one])
theorem Ev.indexAddr0 {b n cap : Nat} {k : IntKind} {i : Int} {E : TypeId} (hx : look e x = some (.slice (some ⟨b, 0, none⟩) n cap)) (hy : look e y = some (.int k i)) (hT : P.underlying T = some (.slice E)) (hs : sizeIs P E 1) (hi : 0 ≤ i ∧ i < n) :
    Ev P e (.indexAddr T x y) w (.pointer (some ⟨b, i.toNat, none⟩)) := (Ev.indexAddr hx hy hT hs hi).cast (by rw [Nat.mul_one, Nat.zero_add])
theorem Ev.indexAddrA0 {b n : Nat} {k : IntKind} {i : Int} {E : TypeId} (hx : look e x = some (.pointer (some ⟨b, 0, none⟩))) (hy : look e y = some (.int k i)) (hT : P.underlying T = some (.array n E)) (hs : sizeIs P E 1) (hi : 0 ≤ i ∧ i < n) :
    Ev P e (.indexAddr T x y) w (.pointer (some ⟨b, i.toNat, none⟩)) := (Ev.indexAddrA hx hy hT hs hi).cast (by rw [Nat.mul_one, Nat.zero_add])
theorem Ev.nilCheck {a : Addr} (hx : look e x = some (.pointer (some a))) : Ev P e (.nilCheck x) w (.pointer (some a)) :=
  fun w' hw ρ hρ op ho => by simp [execOp, ho, hρ _ _ hx]
theorem Ev.idxS {k : IntKind} {i : Int} {l : Bs} {c : UInt8} (hx : look e x = some (str l)) (hy : look e y = some (.int k i)) (hT : P.underlying T = some .string) (h0 : 0 ≤ i) (hi : l[i.toNat]? = some c) : Ev P e (.index T x y) w (u8 c) :=
  fun w' hw ρ hρ op ho => by
    have h1 : (bs l)[i.toNat]? = some c := by
      have hlt : i.toNat < l.length := (List.getElem?_eq_some_iff.1 hi).1
      rw [ByteArray.getElem?_lt' _ _ (by rw [bs_size]; exact hlt)]
      rw [List.getElem?_eq_getElem hlt] at hi
      simpa [bs, ByteArray.getElem_eq_getElem_data] using hi
    simp [execOp, ho, hρ _ _ hx, hρ _ _ hy, Instr.index, asIntOf, run_underlying hT, h0, h1]

/-- a slice of a slice: its value -/
def cutV (s : Nat) (a : Option Addr) (cap l h : Nat) : Value := .slice (if cap = l then a else a.map (·.add (l * s))) (h - l) (cap - l)
theorem Ev.cut {a : Option Addr} {n cap s : Nat} {k k' : IntKind} {l h : Int} {E : TypeId} {lo hi : Operand} (hx : look e x = some (.slice a n cap)) (hl : look e lo = some (.int k l)) (hh : look e hi = some (.int k' h)) (hT : P.underlying T = some (.slice E)) (hs : sizeIs P E s)
    (hb : 0 ≤ l ∧ l ≤ h ∧ h ≤ cap) : Ev P e (.slice T x (some lo) (some hi) none) w (cutV s a cap l.toNat h.toNat) :=
  fun w' hw ρ hρ op ho => by
    have h1 : 0 ≤ h := by omega
    have h2 : ((h.toNat : Nat) : Int) = h := Int.toNat_of_nonneg h1
    simp [execOp, ho, hρ _ _ hx, hρ _ _ hl, hρ _ _ hh, Instr.sliceAt, Instr.slice, run_underlying hT, Instr.sliceBounds, run_sliceBound, hb.1, hb.2.1, hb.2.2, h1, h2, hs.run, cutV]
theorem Ev.cutLo {a : Option Addr} {n cap s : Nat} {k : IntKind} {l : Int} {E : TypeId} {lo : Operand} (hx : look e x = some (.slice a n cap)) (hl : look e lo = some (.int k l)) (hT : P.underlying T = some (.slice E)) (hs : sizeIs P E s)
    (hb : 0 ≤ l ∧ l ≤ n) : Ev P e (.slice T x (some lo) none none) w (cutV s a cap l.toNat n) :=
  fun w' hw ρ hρ op ho => by
    simp [execOp, ho, hρ _ _ hx, hρ _ _ hl, Instr.sliceAt, Instr.slice, run_underlying hT, Instr.sliceBounds, run_sliceBound, hb.1, hb.2, hs.run, cutV]
theorem Ev.cutHi {a : Option Addr} {n cap s : Nat} {k : IntKind} {h : Int} {E : TypeId} {hi : Operand} (hx : look e x = some (.slice a n cap)) (hh : look e hi = some (.int k h)) (hT : P.underlying T = some (.slice E)) (hs : sizeIs P E s)
    (hb : 0 ≤ h ∧ h ≤ cap) : Ev P e (.slice T x none (some hi) none) w (cutV s a cap 0 h.toNat) :=
  fun w' hw ρ hρ op ho => by
    simp [execOp, ho, hρ _ _ hx, hρ _ _ hh, Instr.sliceAt, Instr.slice, run_underlying hT, Instr.sliceBounds, run_sliceBound, hb.1, hb.2, hs.run, cutV]
theorem Ev.cutS {k k' : IntKind} {l h : Int} {s : Bs} {lo hi : Operand} (hx : look e x = some (str s)) (hl : look e lo = some (.int k l)) (hh : look e hi = some (.int k' h)) (hT : P.underlying T = some .string)
    (hb : 0 ≤ l ∧ l ≤ h ∧ h ≤ s.length) : Ev P e (.slice T x (some lo) (some hi) none) w (str ((s.drop l.toNat).take (h.toNat - l.toNat))) :=
  fun w' hw ρ hρ op ho => by
    have h1 : 0 ≤ h := by omega
    have h2 : ((h.toNat : Nat) : Int) = h := Int.toNat_of_nonneg h1
    simp [execOp, ho, hρ _ _ hx, hρ _ _ hl, hρ _ _ hh, Instr.sliceAt, Instr.slice, run_underlying hT, Instr.sliceBounds, run_sliceBound, hb.1, hb.2.1, hb.2.2, h1, h2, bs_size, bs_extract]
theorem Ev.cutSLo {k : IntKind} {l : Int} {s : Bs} {lo : Operand} (hx : look e x = some (str s)) (hl : look e lo = some (.int k l)) (hT : P.underlying T = some .string)
    (hb : 0 ≤ l ∧ l ≤ s.length) : Ev P e (.slice T x (some lo) none none) w (str (s.drop l.toNat)) :=
  fun w' hw ρ hρ op ho => by
    simp [execOp, ho, hρ _ _ hx, hρ _ _ hl, Instr.sliceAt, Instr.slice, run_underlying hT, Instr.sliceBounds, run_sliceBound, hb.1, hb.2, bs_size, bs_extract]
    rw [List.take_of_length_le (by simp)]
theorem Ev.cutSHi {k : IntKind} {h : Int} {s : Bs} {hi : Operand} (hx : look e x = some (str s)) (hh : look e hi = some (.int k h)) (hT : P.underlying T = some .string)
    (hb : 0 ≤ h ∧ h ≤ s.length) : Ev P e (.slice T x none (some hi) none) w (str (s.take h.toNat)) :=
  fun w' hw ρ hρ op ho => by
    simp [execOp, ho, hρ _ _ hx, hρ _ _ hh, Instr.sliceAt, Instr.slice, run_underlying hT, Instr.sliceBounds, run_sliceBound, hb.1, hb.2, bs_size, bs_extract]
end
end Go.Proofs.YtpfehnopghffjaaGreatDoor
/-
  Values that read as data, in blocks of a given set; what makes and writes memory. No program in sight.
-/
namespace Go.Proofs.YtpfehnopghffjaaGreatDoor
open Go

/-- A kind of data: how many cells it takes; when a value reads so, all its memory lying in blocks of P. -/
structure Ty (α : Type) where
  size : Nat
  rep : (Nat → Prop) → World → Value → α → Prop
  sz : ∀ {P w v x}, rep P w v x → v.cells.size = size
  one : ∀ {P w v x}, rep P w v x → ∀ u ∈ v.cells.toList, u.oneCell' = true
  keep : ∀ {P w w' v x}, rep P w v x → (∀ k, P k → k < w.heap.size → w'.heap[k]? = w.heap[k]?) → rep P w' v x
  mono : ∀ {P P' w v x}, rep P w v x → (∀ k, P k → k < w.heap.size → P' k) → rep P' w v x
abbrev All : Nat → Prop := fun _ => True
theorem Ty.ext {α : Type} (t : Ty α) {P S : Nat → Prop} {w w' : World} {v : Value} {x : α} (h : t.rep P w v x) (hx : Ext S w w') (hs : ∀ k, P k → k < w.heap.size → ¬ S k) : t.rep P w' v x :=
  t.keep h (fun k hk hlt => hx.block k hlt (hs k hk hlt))
theorem Ty.ext0 {α : Type} (t : Ty α) {P : Nat → Prop} {w w' : World} {v : Value} {x : α} (h : t.rep P w v x) (hx : Ext (fun _ => False) w w') : t.rep P w' v x := t.ext h hx (fun _ _ _ hf => hf)
theorem Ty.all {α : Type} (t : Ty α) {P : Nat → Prop} {w : World} {v : Value} {x : α} (h : t.rep P w v x) : t.rep All w v x := t.mono h (fun _ _ _ => trivial)

theorem allOf {α : Type} {t : Ty α} {P : Nat → Prop} {w : World} {v : Value} {x : α} (h : t.rep P w v x) : t.rep All w v x := t.mono h (fun _ _ _ => trivial)
abbrev Lim : Nat := 140737488355328
def tByte : Ty UInt8 := { size := 1, rep := fun _ _ v x => v = u8 x, sz := by rintro _ _ _ _ rfl; rfl, one := by rintro _ _ _ _ rfl u hu; simp [Value.cells] at hu; subst hu; rfl, keep := fun h _ => h, mono := fun h _ => h }
def tU32 : Ty UInt32 := { size := 1, rep := fun _ _ v x => v = u32 x, sz := by rintro _ _ _ _ rfl; rfl, one := by rintro _ _ _ _ rfl u hu; simp [Value.cells] at hu; subst hu; rfl, keep := fun h _ => h, mono := fun h _ => h }
def tBool : Ty Bool := { size := 1, rep := fun _ _ v x => v = .bool x, sz := by rintro _ _ _ _ rfl; rfl, one := by rintro _ _ _ _ rfl u hu; simp [Value.cells] at hu; subst hu; rfl, keep := fun h _ => h, mono := fun h _ => h }
def tInt : Ty Int := { size := 1, rep := fun _ _ v x => v = i64 x ∧ -9223372036854775808 ≤ x ∧ x ≤ 9223372036854775807, sz := by rintro _ _ _ _ ⟨rfl, _⟩; rfl, one := by rintro _ _ _ _ ⟨rfl, _⟩ u hu; simp [Value.cells] at hu; subst hu; rfl, keep := fun h _ => h, mono := fun h _ => h }
def tStr : Ty Bs := { size := 1, rep := fun _ _ v x => v = str x ∧ x.length < Lim, sz := by rintro _ _ _ _ ⟨rfl, _⟩; rfl, one := by rintro _ _ _ _ ⟨rfl, _⟩ u hu; simp [Value.cells] at hu; subst hu; rfl, keep := fun h _ => h, mono := fun h _ => h }

def flat (us : List Value) : List Value := us.flatMap (·.cells.toList)
theorem flat_nil : flat [] = [] := rfl
theorem flat_cons (u : Value) (us : List Value) : flat (u :: us) = u.cells.toList ++ flat us := by simp [flat]
theorem flat_append (a b : List Value) : flat (a ++ b) = flat a ++ flat b := by simp [flat]
theorem flat_length {n : Nat} : ∀ {us : List Value}, (∀ u ∈ us, u.cells.size = n) → (flat us).length = us.length * n
  | [], _ => by simp [flat]
  | u :: us, h => by
    rw [flat_cons, List.length_append, flat_length (fun x hx => h x (by simp [hx])), Array.length_toList, h u (by simp)]
    simp [Nat.add_mul, Nat.add_comm]
theorem flat_one {us : List Value} (h : ∀ u ∈ us, u.oneCell' = true) : flat us = us := by
  induction us with
  | nil => rfl
  | cons u us ih =>
    rw [flat_cons, ih (fun x hx => h x (by simp [hx]))]
    have := h u (by simp)
    cases u <;> simp_all [Value.cells, Value.oneCell']
theorem flat_take {n : Nat} : ∀ {us : List Value} (k : Nat), (∀ u ∈ us, u.cells.size = n) → flat (us.take k) = (flat us).take (k * n)
  | [], k, _ => by simp [flat]
  | u :: us, 0, _ => by simp [flat]
  | u :: us, k + 1, h => by
    have hu : u.cells.toList.length = n := by rw [Array.length_toList, h u (by simp)]
    rw [List.take_succ_cons, flat_cons, flat_cons, flat_take k (fun x hx => h x (by simp [hx])), List.take_append, hu, show (k + 1) * n - n = k * n by rw [Nat.add_mul]; omega, List.take_of_length_le (l := u.cells.toList) (by rw [hu, Nat.add_mul]; omega)]
theorem flat_drop {n : Nat} : ∀ {us : List Value} (k : Nat), (∀ u ∈ us, u.cells.size = n) → flat (us.drop k) = (flat us).drop (k * n)
  | [], k, _ => by simp [flat]
  | u :: us, 0, _ => by simp
  | u :: us, k + 1, h => by
    have hu : u.cells.toList.length = n := by rw [Array.length_toList, h u (by simp)]
    rw [List.drop_succ_cons, flat_cons, flat_drop k (fun x hx => h x (by simp [hx])), List.drop_append, hu, show (k + 1) * n - n = k * n by rw [Nat.add_mul]; omega, List.drop_of_length_le (l := u.cells.toList) (by rw [hu, Nat.add_mul]; omega), List.nil_append]

/-- element by element -/
inductive Each {α : Type} (R : Value → α → Prop) : List Value → List α → Prop where
  | nil : Each R [] []
  | cons {u x us xs} : R u x → Each R us xs → Each R (u :: us) (x :: xs)
namespace Each
variable {α : Type} {R R' : Value → α → Prop} {us vs : List Value} {xs ys : List α}
theorem length (h : Each R us xs) : us.length = xs.length := by induction h <;> simp_all
theorem imp (h : Each R us xs) (hr : ∀ u x, R u x → R' u x) : Each R' us xs := by
  induction h with
  | nil => exact .nil
  | cons h1 _ ih => exact .cons (hr _ _ h1) ih
theorem append (h : Each R us xs) (h' : Each R vs ys) : Each R (us ++ vs) (xs ++ ys) := by
  induction h with
  | nil => exact h'
  | cons h1 _ ih => exact .cons h1 ih
theorem get (h : Each R us xs) : ∀ {i : Nat} {x : α}, xs[i]? = some x → ∃ u, us[i]? = some u ∧ R u x := by
  induction h with
  | nil => intro i x hi; simp at hi
  | cons h1 _ ih =>
    intro i x hi
    cases i with
    | zero => simp at hi; subst hi; exact ⟨_, rfl, h1⟩
    | succ i => simp at hi; obtain ⟨u, hu, hr⟩ := ih hi; exact ⟨u, by simpa using hu, hr⟩
theorem take (h : Each R us xs) (n : Nat) : Each R (us.take n) (xs.take n) := by
  induction h generalizing n with
  | nil => simpa using Each.nil
  | cons h1 _ ih =>
    cases n with
    | zero => simpa using Each.nil
    | succ n => simpa using Each.cons h1 (ih n)
theorem drop (h : Each R us xs) (n : Nat) : Each R (us.drop n) (xs.drop n) := by
  induction h generalizing n with
  | nil => simpa using Each.nil
  | cons h1 h2 ih =>
    cases n with
    | zero => simpa using Each.cons h1 h2
    | succ n => simpa using ih n
theorem set (h : Each R us xs) (i : Nat) {u : Value} {x : α} (hr : R u x) : Each R (us.set i u) (xs.set i x) := by
  induction h generalizing i with
  | nil => simpa using Each.nil
  | cons h1 h2 ih =>
    cases i with
    | zero => simpa using Each.cons hr h2
    | succ i => simpa using Each.cons h1 (ih i)
theorem mem {n : Nat} (h : Each R us xs) (hr : ∀ u x, R u x → u.cells.size = n) : ∀ u ∈ us, u.cells.size = n := by
  induction h with
  | nil => intro u hu; cases hu
  | cons h1 _ ih =>
    intro u hu
    cases hu with
    | head => exact hr _ _ h1
    | tail _ hu => exact ih u hu
theorem map (f : α → Value) (hf : ∀ x, R (f x) x) (xs : List α) : Each R (xs.map f) xs := by
  induction xs with
  | nil => exact .nil
  | cons x xs ih => exact .cons (hf x) ih
theorem mapMem (f : α → Value) : ∀ {xs : List α}, (∀ x ∈ xs, R (f x) x) → Each R (xs.map f) xs
  | [], _ => .nil
  | x :: xs, h => .cons (h x (by simp)) (mapMem f (fun y hy => h y (by simp [hy])))
theorem eq_map (f : α → Value) (h : Each (fun u x => u = f x) us xs) : us = xs.map f := by
  induction h with
  | nil => rfl
  | cons h1 _ ih => simp [h1, ih]
end Each

/-- a slice: its value, and what it holds -/
def Sl {α : Type} (t : Ty α) : Ty (List α) where
  size := 1
  rep P w v xs := xs.length < Lim ∧ ∃ a cap, v = .slice a xs.length cap ∧ xs.length ≤ cap ∧
    ((xs = [] ∧ cap = 0) ∨ ∃ b o us, a = some ⟨b, o, none⟩ ∧ P b ∧ b < w.heap.size ∧ Each (t.rep P w) us xs ∧ Cells w b o (flat us))
  sz := by rintro _ _ _ _ ⟨_, a, cap, rfl, _⟩; rfl
  one := by rintro _ _ _ _ ⟨_, a, cap, rfl, _⟩ u hu; simp [Value.cells] at hu; subst hu; rfl
  keep := by
    rintro P w w' v xs ⟨hl, a, cap, rfl, hc, h⟩ hk
    refine ⟨hl, a, cap, rfl, hc, ?_⟩
    rcases h with h | ⟨b, o, us, rfl, hb, hlt, he, hcs⟩
    · exact .inl h
    · have hb' := hk b hb hlt
      have hlt' : b < w'.heap.size := by
        rcases Nat.lt_or_ge b w'.heap.size with h | h
        · exact h
        · rw [Array.getElem?_eq_none h] at hb'
          simp [hlt] at hb'
      exact .inr ⟨b, o, us, rfl, hb, hlt', he.imp (fun u x h => t.keep h hk), hcs.keep hb'⟩
  mono := by
    rintro P P' w v xs ⟨hl, a, cap, rfl, hc, h⟩ hk
    refine ⟨hl, a, cap, rfl, hc, ?_⟩
    rcases h with h | ⟨b, o, us, rfl, hb, hlt, he, hcs⟩
    · exact .inl h
    · exact .inr ⟨b, o, us, rfl, hk b hb hlt, hlt, he.imp (fun u x h => t.mono h hk), hcs⟩
abbrev tBytes := Sl tByte
abbrev tInts := Sl tInt
abbrev tStrs := Sl tStr

section
variable {α : Type} {t : Ty α} {P : Nat → Prop} {w : World} {v : Value} {xs : List α}
theorem Sl.val (h : (Sl t).rep P w v xs) : ∃ a cap, v = .slice a xs.length cap ∧ xs.length ≤ cap := by obtain ⟨_, a, cap, h1, h2, _⟩ := h; exact ⟨a, cap, h1, h2⟩
theorem Sl.lim (h : (Sl t).rep P w v xs) : xs.length < Lim := h.1
/-- the element at i -/
theorem Sl.at (h : (Sl t).rep P w v xs) {i : Nat} {x : α} (hi : xs[i]? = some x) : ∃ b o cap u, v = .slice (some ⟨b, o, none⟩) xs.length cap ∧ P b ∧ Cells w b (o + i * t.size) u.cells.toList ∧ t.rep P w u x := by
  obtain ⟨_, a, cap, rfl, hc, h⟩ := h
  rcases h with ⟨rfl, _⟩ | ⟨b, o, us, rfl, hb, hlt, he, hcs⟩
  · simp at hi
  · obtain ⟨u, hu, hr⟩ := he.get hi
    refine ⟨b, o, cap, u, rfl, hb, ?_, hr⟩
    have hsz := he.mem (n := t.size) (fun u x h => t.sz h)
    have h1 := hcs.drop (i * t.size)
    rw [← flat_drop i hsz] at h1
    have hlt : i < us.length := (List.getElem?_eq_some_iff.1 hu).1
    have h2 : us.drop i = u :: us.drop (i + 1) := by
      rw [List.getElem?_eq_getElem hlt] at hu
      rw [List.drop_eq_getElem_cons hlt]
      simp at hu
      rw [hu]
    rw [h2, flat_cons] at h1
    exact h1.left
theorem Sl.nil : (Sl t).rep P w (.slice none 0 0) [] := ⟨by show 0 < Lim; decide, none, 0, rfl, Nat.le_refl _, .inl ⟨rfl, rfl⟩⟩
theorem Sl.mk {b o cap : Nat} {us : List Value} (he : Each (t.rep P w) us xs) (hc : Cells w b o (flat us)) (hb : P b) (hlt : b < w.heap.size) (hcap : xs.length ≤ cap) (hl : xs.length < Lim) {n : Nat} (hn : n = xs.length) : (Sl t).rep P w (.slice (some ⟨b, o, none⟩) n cap) xs :=
  ⟨hl, _, cap, by rw [hn], hcap, .inr ⟨b, o, us, rfl, hb, hlt, he, hc⟩⟩
theorem Sl.cut {a : Option Addr} {n cap : Nat} (h : (Sl t).rep P w (.slice a n cap) xs) (l k : Nat) (h1 : l ≤ k) (h2 : k ≤ n) : (Sl t).rep P w (cutV t.size a cap l k) ((xs.take k).drop l) := by
  obtain ⟨hl, a', cap', hv, hc, h⟩ := h
  cases hv
  have hlen : ((xs.take k).drop l).length = k - l := by simp; omega
  refine ⟨by rw [hlen]; simp only [Lim] at *; omega, (if cap = l then a else a.map (·.add (l * t.size))), cap - l, by simp [cutV, hlen], by rw [hlen]; omega, ?_⟩
  rcases h with ⟨rfl, rfl⟩ | ⟨b, o, us, rfl, hb, hlt, he, hcs⟩
  · left; simp
  · right
    by_cases hcl : cap = l
    · have hle : l = k := by omega
      subst hle
      refine ⟨b, o, [], by simp [hcl], hb, hlt, ?_, Cells.nil _ _ _⟩
      have : (xs.take l).drop l = [] := List.eq_nil_of_length_eq_zero (by rw [hlen]; omega)
      rw [this]
      exact .nil
    · refine ⟨b, o + l * t.size, (us.take k).drop l, by simp [hcl, add_none], hb, hlt, (he.take k).drop l, ?_⟩
      have hsz := he.mem (n := t.size) (fun u x h => t.sz h)
      rw [flat_drop l (fun u hu => hsz u (List.mem_of_mem_take hu)), flat_take k hsz]
      exact (hcs.take _).drop _
end
theorem each_u8 {P : Nat → Prop} {w : World} (l : Bs) : Each (tByte.rep P w) (l.map u8) l := Each.map u8 (fun _ => rfl) l
theorem flat_u8 (l : Bs) : flat (l.map u8) = l.map u8 := flat_one (by simp [Value.oneCell'])
theorem Sl.bytes {P : Nat → Prop} {w : World} {v : Value} {l : Bs} (h : tBytes.rep P w v l) : l.length < Lim ∧ ∃ a cap, v = .slice a l.length cap ∧ l.length ≤ cap ∧ ((l = [] ∧ cap = 0) ∨ ∃ b o, a = some ⟨b, o, none⟩ ∧ P b ∧ b < w.heap.size ∧ Cells w b o (l.map u8)) := by
  obtain ⟨hl, a, cap, rfl, hc, h⟩ := h
  refine ⟨hl, a, cap, rfl, hc, ?_⟩
  rcases h with h | ⟨b, o, us, rfl, hb, hlt, he, hcs⟩
  · exact .inl h
  · have : us = l.map u8 := Each.eq_map u8 he
    subst this
    rw [flat_u8] at hcs
    exact .inr ⟨b, o, rfl, hb, hlt, hcs⟩
theorem Sl.byteAt {P : Nat → Prop} {w : World} {a : Option Addr} {n cap : Nat} {l : Bs} (h : tBytes.rep P w (.slice a n cap) l) {k : Nat} (hk : k < l.length) : ∃ b o, a = some ⟨b, o, none⟩ ∧ P b ∧ w.cell? ⟨b, o + k, none⟩ = some (u8 l[k]) := by
  obtain ⟨_, a', cap', hv, _, h⟩ := Sl.bytes h
  cases hv
  rcases h with ⟨rfl, _⟩ | ⟨b, o, rfl, hb, _, hc⟩
  · simp at hk
  · exact ⟨b, o, rfl, hb, hc k _ (by simp [hk])⟩
theorem Sl.mkBytes {P : Nat → Prop} {w : World} {b o cap n : Nat} {l : Bs} (hc : Cells w b o (l.map u8)) (hb : P b) (hlt : b < w.heap.size) (hcap : l.length ≤ cap) (hl : l.length < Lim) (hn : n = l.length) : tBytes.rep P w (.slice (some ⟨b, o, none⟩) n cap) l :=
  Sl.mk (each_u8 l) (by rw [flat_u8]; exact hc) hb hlt hcap hl hn
theorem Sl.cellAt {α : Type} {t : Ty α} {P : Nat → Prop} {w : World} {a : Option Addr} {n cap : Nat} {xs : List α} (h : (Sl t).rep P w (.slice a n cap) xs) (h1 : t.size = 1) (f : α → Value) (hf : ∀ u x, t.rep P w u x → u = f x ∧ (f x).cells = #[f x]) {k : Nat} (hk : k < xs.length) :
    ∃ b o, a = some ⟨b, o, none⟩ ∧ P b ∧ w.cell? ⟨b, o + k, none⟩ = some (f xs[k]) ∧ t.rep P w (f xs[k]) xs[k] := by
  obtain ⟨b, o, cap', u, hv, hb, hc, hr⟩ := Sl.at h (List.getElem?_eq_getElem hk)
  cases hv
  obtain ⟨rfl, h2⟩ := hf _ _ hr
  refine ⟨b, o, rfl, hb, ?_, hr⟩
  rw [h2, h1, Nat.mul_one] at hc
  exact hc 0 _ rfl
theorem Sl.strAt {P : Nat → Prop} {w : World} {a : Option Addr} {n cap : Nat} {xs : List Bs} (h : tStrs.rep P w (.slice a n cap) xs) {k : Nat} (hk : k < xs.length) : ∃ b o, a = some ⟨b, o, none⟩ ∧ P b ∧ w.cell? ⟨b, o + k, none⟩ = some (str xs[k]) ∧ xs[k].length < Lim := by
  obtain ⟨b, o, h1, h2, h3, h4⟩ := Sl.cellAt h rfl str (fun u x hx => ⟨hx.1, rfl⟩) hk
  exact ⟨b, o, h1, h2, h3, h4.2⟩
theorem Sl.intAt {P : Nat → Prop} {w : World} {a : Option Addr} {n cap : Nat} {xs : List Int} (h : tInts.rep P w (.slice a n cap) xs) {k : Nat} (hk : k < xs.length) : ∃ b o, a = some ⟨b, o, none⟩ ∧ P b ∧ w.cell? ⟨b, o + k, none⟩ = some (i64 xs[k]) ∧ (-9223372036854775808 ≤ xs[k] ∧ xs[k] ≤ 9223372036854775807) := by
  obtain ⟨b, o, h1, h2, h3, h4⟩ := Sl.cellAt h rfl i64 (fun u x hx => ⟨hx.1, rfl⟩) hk
  exact ⟨b, o, h1, h2, h3, h4.2⟩
theorem Sl.mkInts {P : Nat → Prop} {w : World} {b cap n : Nat} {E : TypeId} {l : List Int} {cs : List Value} (hB : Blk w b E cs) (hcs : cs.take l.length = l.map i64) (hr : ∀ x ∈ l, -9223372036854775808 ≤ x ∧ x ≤ 9223372036854775807) (hb : P b) (hcap : l.length ≤ cap) (hl : l.length < Lim) (hn : n = l.length) :
    tInts.rep P w (.slice (some ⟨b, 0, none⟩) n cap) l :=
  Sl.mk (us := l.map i64) (Each.mapMem i64 (fun x hx => show tInt.rep P w (i64 x) x from ⟨rfl, hr x hx⟩)) (by rw [flat_one (by simp [Value.oneCell']), ← hcs]; exact hB.cells.take _) hb hB.lt hcap hl hn
theorem Sl.mkBytesB {P : Nat → Prop} {w : World} {b cap n : Nat} {E : TypeId} {l : Bs} {cs : List Value} (hB : Blk w b E cs) (hcs : cs.take l.length = l.map u8) (hb : P b) (hcap : l.length ≤ cap) (hl : l.length < Lim) (hn : n = l.length) :
    tBytes.rep P w (.slice (some ⟨b, 0, none⟩) n cap) l :=
  Sl.mkBytes (by rw [← hcs]; exact hB.cells.take _) hb hB.lt hcap hl hn
end Go.Proofs.YtpfehnopghffjaaGreatDoor
