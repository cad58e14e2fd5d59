
/-
  Acts whose bytes are a call's own; the greatest of three; frames that are good.
-/
import Derived.Test.YtapdacjpmmjlhaaLogState
import Derived.Test.YtapdacjpmmjlhaaHalf
import Derived.Test.YtapdacjpmmjlhaaLo
set_option linter.unusedVariables false
set_option linter.unusedSimpArgs false
namespace Go.Proofs.Ytapdacjpmmjlhaa
open Go disk log
namespace disk
def tActO : Ty disk.Act := (tBool.pair tPutO).map (fun a => (a.flush, a.put))
section
variable {P : Nat → Prop} {w : World} {v : Value}
theorem tActO.mk {a : disk.Act} {u : Value} (h : tOwnB.rep P w u a.put.data) (h1 : -9223372036854775808 ≤ a.put.sector ∧ a.put.sector ≤ 9223372036854775807) : tActO.rep P w (.agg #[.bool a.flush, i64 a.put.sector, u]) a := by
  refine ⟨.bool a.flush, .agg #[i64 a.put.sector, u], ?_, rfl, tPutO.mk h h1⟩
  rfl
theorem tActO.val {a : disk.Act} (h : tActO.rep P w v a) : ∃ u, v = .agg #[.bool a.flush, i64 a.put.sector, u] ∧ tOwnB.rep P w u a.put.data ∧ -9223372036854775808 ≤ a.put.sector ∧ a.put.sector ≤ 9223372036854775807 := by
  obtain ⟨u, u', rfl, rfl, h2⟩ := h
  obtain ⟨x, rfl, h3, h4⟩ := tPutO.val h2
  exact ⟨x, rfl, h3, h4⟩
theorem tAct.mk {a : disk.Act} {u : Value} (h : tBytes.rep P w u a.put.data) (h1 : -9223372036854775808 ≤ a.put.sector ∧ a.put.sector ≤ 9223372036854775807) : tAct.rep P w (.agg #[.bool a.flush, i64 a.put.sector, u]) a := by
  refine ⟨.bool a.flush, .agg #[i64 a.put.sector, u], ?_, rfl, tPut.mk h h1⟩
  rfl
theorem tActO.weak {a : disk.Act} (h : tActO.rep P w v a) : tAct.rep P w v a := by
  obtain ⟨u, rfl, h1, h2⟩ := tActO.val h
  exact tAct.mk (tOwnB.weak h1) h2
theorem actsOwn {B Q : Nat → Prop} {E : TypeId} {l : List disk.Act} (h : OwnO tActO Q E w v l B) : (Sl tAct).rep All w v l := Sl.imp (OwnO.rep h (R := All) (fun _ _ _ => trivial) (fun _ _ _ => trivial)) (fun u x hx => tActO.weak hx)
end
end disk
theorem Own.ofBytes {Q : Nat → Prop} {w : World} {b : Nat} {l : Bs} (hB : Blk w b 5 (l.map u8)) (hl : l.length < Lim) : Own tByte Q 5 w (.slice (some ⟨b, 0, none⟩) l.length l.length) l b :=
  ⟨hl, .inr ⟨l.length, l.map u8, [], rfl, Nat.le_refl _, each_u8 l, by rw [flat_u8, List.append_nil]; exact hB, by rw [flat_u8]; simp [tByte]⟩⟩
section
variable {P : Program} {e : Env} {w : World} {x y z : Operand} {k : IntKind} {a b c : Int}
theorem Ev.max3 {Ts : Array TypeId} (hx : look e x = some (.int k a)) (hy : look e y = some (.int k b)) (hz : look e z = some (.int k c)) : Ev P e (.call { callee := .builtin .max, args := #[x, y, z], argTypes := Ts }) w (.int k (max (max a b) c)) :=
  fun w' _ ρ hρ o ho => by
    have h : (if a < b then b else a) = max a b := by split <;> omega
    have h2 : (if max a b < c then c else max a b) = max (max a b) c := by split <;> omega
    simp [execOp, ho, resolve, invoke, builtin, hρ _ _ hx, hρ _ _ hy, hρ _ _ hz, Builtin.max_, Builtin.max2, h, h2]
end
theorem u32_max_nat (a b : UInt32) : (max a b).toNat = max a.toNat b.toNat := by
  show (if a ≤ b then b else a).toNat = _
  split
  · rename_i h; have h : a.toNat ≤ b.toNat := h; omega
  · rename_i h; have h : ¬ a.toNat ≤ b.toNat := h; omega
theorem u32_max (a b : UInt32) : Value.int .u32 (max (a.toNat : Int) (b.toNat : Int)) = u32 (max a b) := by
  show _ = Value.int .u32 ((max a b).toNat : Int)
  rw [u32_max_nat]
  congr 1
  omega
theorem u32_max3 (a b c : UInt32) : Value.int .u32 (max (max (a.toNat : Int) (b.toNat : Int)) (c.toNat : Int)) = u32 (max (max a b) c) := by
  show _ = Value.int .u32 ((max (max a b) c).toNat : Int)
  rw [u32_max_nat, u32_max_nat]
  congr 1
  omega
theorem u32_last (x : UInt32) : ((x.toNat : Int) = 4294967295) ↔ x = 4294967295 := by
  constructor
  · intro h
    apply UInt32.toNat_inj.1
    have h : x.toNat = 4294967295 := by omega
    rw [h]; rfl
  · rintro rfl; rfl
theorem u32_eq (a b : UInt32) : ((a.toNat : Int) = (b.toNat : Int)) ↔ a = b := by
  rw [← UInt32.toNat_inj]; omega
namespace log
theorem state_facts {d : Disk} (h : (stateF d).2 = 0) : ¬ (stateF d).1.epoch = 0 ∧ checkF d = 0 ∧ 80 ≤ d.count := by
  obtain ⟨h1, h2, h3, h4, h5, h6⟩ := state_ok h
  exact ⟨by rw [h5]; exact h4, h2, h3⟩
theorem clear_patch (e : UInt32) : log.patch (List.replicate 128 0) 0 (put4 e) = clearB e := by
  unfold log.patch clearB
  rw [put4_length, List.take_zero, List.nil_append, List.drop_replicate]
theorem clearB_length (e : UInt32) : (clearB e).length = 128 := by simp [clearB, put4_length]
theorem u32_succ_ne {x : UInt32} (h : ¬ x = 4294967295) : ¬ x + 1 = 0 ∧ (x + 1).toNat = x.toNat + 1 := by
  have h1 : x.toNat ≠ 4294967295 := fun e => h (UInt32.toNat_inj.1 (by rw [e]; rfl))
  have h2 := x.toNat_lt
  have h3 : (x + 1).toNat = x.toNat + 1 := by
    rw [UInt32.toNat_add]
    show (x.toNat + 1) % 4294967296 = _
    omega
  exact ⟨fun e => by rw [e] at h3; have h3 : 0 = x.toNat + 1 := h3; omega, h3⟩
theorem frame_good {epoch salt prev : UInt32} {r : Bs} (h1 : ¬ epoch = 0) (h2 : ¬ salt = 0) (h3 : r.length ≤ 4096) : frameF epoch salt prev r = (frameL epoch salt prev r, 0) := by
  unfold frameF
  rw [if_neg (fun h => h.elim h1 h2), if_neg (by omega)]
theorem frameL_length (epoch salt prev : UInt32) (r : Bs) : (frameL epoch salt prev r).length = needs r.length * 128 := frameTo_length _ _ _ _ _ _
theorem saltTo_succ (d : Disk) (epoch : UInt32) (a k : Nat) : saltTo d epoch a (k + 1) = saltStep d epoch (a + k) (saltTo d epoch a k) := rfl
theorem saltStep_T {d : Disk} {epoch m : UInt32} {i : Nat} (h : get4 (readF d ((17 + i : Nat) : Int)) = epoch) : saltStep d epoch i m = max (max m (get4 ((readF d ((17 + i : Nat) : Int)).drop 4))) (get4 ((readF d ((17 + i : Nat) : Int)).drop 8)) := by unfold saltStep; rw [if_pos h]
theorem saltStep_F {d : Disk} {epoch m : UInt32} {i : Nat} (h : ¬ get4 (readF d ((17 + i : Nat) : Int)) = epoch) : saltStep d epoch i m = m := by unfold saltStep; rw [if_neg h]
theorem add_err {d : Disk} {r : Bs} (h : ¬ (stateF d).2 = 0) : addF d r = ([], (stateF d).2) := by unfold addF; rw [if_pos h]
theorem add_long {d : Disk} {r : Bs} (h : (stateF d).2 = 0) (h2 : 4096 < r.length) : addF d r = ([], 3) := by unfold addF; rw [if_neg (fun hh => hh h), if_pos h2]
theorem add_full {d : Disk} {r : Bs} (h : (stateF d).2 = 0) (h2 : ¬ 4096 < r.length) (h3 : 63 < (stateF d).1.at' + needs r.length) : addF d r = ([], 30) := by unfold addF; rw [if_neg (fun hh => hh h), if_neg h2, if_pos h3]
theorem add_salt {d : Disk} {r : Bs} (h : (stateF d).2 = 0) (h2 : ¬ 4096 < r.length) (h3 : ¬ 63 < (stateF d).1.at' + needs r.length) (h4 : saltF d (stateF d).1.epoch (stateF d).1.at' = 4294967295) : addF d r = ([], 30) := by unfold addF; rw [if_neg (fun hh => hh h), if_neg h2, if_neg h3, if_pos h4]
theorem add_good {d : Disk} {r : Bs} (h : (stateF d).2 = 0) (h2 : ¬ 4096 < r.length) (h3 : ¬ 63 < (stateF d).1.at' + needs r.length) (h4 : ¬ saltF d (stateF d).1.epoch (stateF d).1.at' = 4294967295) :
    addF d r = (actsTo (17 + (stateF d).1.at') (frameL (stateF d).1.epoch (saltF d (stateF d).1.epoch (stateF d).1.at' + 1) (stateF d).1.last r) (needs r.length), 0) := by unfold addF; rw [if_neg (fun hh => hh h), if_neg h2, if_neg h3, if_neg h4]
theorem clear_err {d : Disk} (h : ¬ thereF d = 0) : clearF d = ([], thereF d) := by unfold clearF; rw [if_pos h]
theorem clear_full {d : Disk} (h : thereF d = 0) (h2 : epochTo d 63 = 4294967295) : clearF d = ([], 30) := by unfold clearF; rw [if_neg (fun hh => hh h), if_pos h2]
theorem clear_good {d : Disk} (h : thereF d = 0) (h2 : ¬ epochTo d 63 = 4294967295) : clearF d = ([⟨false, ⟨16, clearB (epochTo d 63 + 1)⟩⟩, ⟨true, ⟨0, []⟩⟩], 0) := by unfold clearF; rw [if_neg (fun hh => hh h), if_neg h2]
end log
end Go.Proofs.Ytapdacjpmmjlhaa
