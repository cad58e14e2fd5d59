
/-
  Layer 2, data: disks, writes, acts; what the walks come to.
-/
import Derived.Test.YtapdacjpmmjlhaaStruct
set_option linter.unusedVariables false
set_option linter.unusedSimpArgs false
namespace Go.Proofs.Ytapdacjpmmjlhaa
open Go
theorem Sl.isNone {α : Type} {t : Ty α} {P : Nat → Prop} {w : World} {a : Option Addr} {n cap : Nat} {xs : List α} (h : (Sl t).rep P w (.slice a n cap) xs) (ha : a.isNone = true) : xs = [] := by
  obtain ⟨_, a', cap', e, _, ⟨rfl, _⟩ | ⟨b, o, us, rfl, _⟩⟩ := h
  · rfl
  · cases e; cases ha
namespace disk
structure Put where
  sector : Int
  data : Bs
deriving DecidableEq
structure Disk where
  count : Int
  data : Bs
  waits : List Put
deriving DecidableEq
structure Act where
  flush : Bool
  put : Put
deriving DecidableEq
def tPut : Ty Put := (tInt.pair tBytes).map (fun p => (p.sector, p.data))
def tDisk : Ty Disk := (tInt.pair (tBytes.pair (Sl tPut))).map (fun d => (d.count, d.data, d.waits))
def tAct : Ty Act := (tBool.pair tPut).map (fun a => (a.flush, a.put))
section
variable {P : Nat → Prop} {w : World} {v : Value}
theorem tBytes_one {u : Value} {l : Bs} (h : tBytes.rep P w u l) : u.cells = #[u] := by obtain ⟨a, cap, rfl, _⟩ := Sl.val h; rfl
theorem Sl_one {α : Type} {t : Ty α} {u : Value} {l : List α} (h : (Sl t).rep P w u l) : u.cells = #[u] := by obtain ⟨a, cap, rfl, _⟩ := Sl.val h; rfl
theorem tPut.val {p : Put} (h : tPut.rep P w v p) : ∃ u, v = .agg #[i64 p.sector, u] ∧ tBytes.rep P w u p.data ∧ -9223372036854775808 ≤ p.sector ∧ p.sector ≤ 9223372036854775807 := by
  obtain ⟨u, u', rfl, ⟨rfl, h1⟩, h2⟩ := h
  refine ⟨u', ?_, h2, h1⟩
  rw [tBytes_one h2]
  rfl
theorem tPut.mk {p : Put} {u : Value} (h : tBytes.rep P w u p.data) (h1 : -9223372036854775808 ≤ p.sector ∧ p.sector ≤ 9223372036854775807) : tPut.rep P w (.agg #[i64 p.sector, u]) p := by
  refine ⟨i64 p.sector, u, ?_, ⟨rfl, h1⟩, h⟩
  rw [tBytes_one h]
  rfl
theorem tDisk.val {d : Disk} (h : tDisk.rep P w v d) : ∃ u u', v = .agg #[i64 d.count, u, u'] ∧ tBytes.rep P w u d.data ∧ (Sl tPut).rep P w u' d.waits ∧ -9223372036854775808 ≤ d.count ∧ d.count ≤ 9223372036854775807 := by
  obtain ⟨c, _, rfl, ⟨rfl, h1⟩, u, u', rfl, h2, h3⟩ := h
  refine ⟨u, u', ?_, h2, h3, h1⟩
  rw [tBytes_one h2, Sl_one h3]
  rfl
theorem tDisk.mk {d : Disk} {u u' : Value} (h : tBytes.rep P w u d.data) (h' : (Sl tPut).rep P w u' d.waits) (h1 : -9223372036854775808 ≤ d.count ∧ d.count ≤ 9223372036854775807) : tDisk.rep P w (.agg #[i64 d.count, u, u']) d := by
  refine ⟨i64 d.count, .agg (u.cells ++ u'.cells), ?_, ⟨rfl, h1⟩, u, u', rfl, h, h'⟩
  rw [tBytes_one h, Sl_one h']
  rfl
theorem tAct.val {a : Act} (h : tAct.rep P w v a) : ∃ u, v = .agg #[.bool a.flush, i64 a.put.sector, u] ∧ tBytes.rep P w u a.put.data ∧ -9223372036854775808 ≤ a.put.sector ∧ a.put.sector ≤ 9223372036854775807 := by
  obtain ⟨u, u', rfl, rfl, h2⟩ := h
  obtain ⟨x, rfl, h3, h4⟩ := tPut.val h2
  exact ⟨x, rfl, h3, h4⟩
end
/-- may a disk be? -/
def okPut (count : Int) (p : Put) : Bool := decide (0 ≤ p.sector ∧ p.sector < count ∧ p.data.length = 128)
def checkF (d : Disk) : Int :=
  if d.count < 1 ∨ 4096 < d.count ∨ ¬ (d.data.length : Int) = d.count * 128 ∨ 4096 < d.waits.length then 20 else if d.waits.all (okPut d.count) then 0 else 20
end disk
end Go.Proofs.Ytapdacjpmmjlhaa
