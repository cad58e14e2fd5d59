/-
  SieveNames: its walk.
-/
import Derived.Test.YtookkbceboccjaaLaw07a
import Derived.Test.YtookkbceboccjaaApp
set_option linter.unusedVariables false
namespace Go.Proofs.Ytookkbceboccjaa
open Go sieve
theorem zeros_rep {n k : Nat} {w w2 : World} {E : TypeId} (N : New w w2 E (List.replicate n (Value.int .u8 0))) (hn : n < Lim) (hk : k = n) : tBytes.rep All w2 (Value.slice (some { block := w.heap.size, off := 0 }) k k) (List.replicate n 0) := by
  subst hk
  exact Sl.mkBytesB N.blk (by rw [List.length_replicate, List.take_of_length_le (by simp)]; simp [u8]) trivial (by simp) (by simpa using hn) (by simp)
theorem rep_len (n : Nat) (hn : n < Lim) : (List.replicate n (0 : UInt8)).length < Lim := by rw [List.length_replicate]; exact hn
theorem ex1 : marksF [] 100 = ([0, 35, 74, 9], 0) := by decide +kernel
theorem ex2 : marksF [97] 8 = ([3, 2, 1, 0], 0) := by decide +kernel
theorem ex3 : makeF [] 16 = ([0, 0], 0) := by decide +kernel
theorem ex4 : hasF [0] [97] = (false, 0) := by decide +kernel
theorem ex5 : makeF [] 12 = ([], 2) := by decide +kernel
theorem ex6 : hasF [] [97] = (false, 2) := by decide +kernel
theorem ex7 : marksF (List.replicate 257 0) 8 = ([], 3) := by decide +kernel
theorem SieveNames_fn {w : World} : Fn Try.prog 3 [] w (fun r w2 => r = .bool true ∧ Ext (fun _ => False) w w2) := by
  refine Fn.enter (fun w => Try.call3 _ w) Try.func3 rfl ?_
  refine .seq (.region ?_)
  refine .p rfl rfl (.as rfl) ?_
  refine .nil (.code (.seq (.keep [] trivial (.region ?_))))
  refine .call (first := []) (captured := []) rfl rfl rfl rfl (Marks_fn (key := []) (by decide)) ?_
  rintro _ w17 ⟨l, rfl, hl, X17⟩
  rw [ex1] at hl ⊢
  obtain ⟨la, lcap, rfl, _⟩ := Sl.val hl
  obtain ⟨l0, lo0, rfl, _, hl0, _⟩ := Sl.intAt hl (k := 0) (by decide)
  obtain ⟨l1, lo1, e1, _, hl1, _⟩ := Sl.intAt hl (k := 1) (by decide)
  cases e1
  obtain ⟨l2, lo2, e2, _, hl2, _⟩ := Sl.intAt hl (k := 2) (by decide)
  cases e2
  obtain ⟨l3, lo3, e3, _, hl3, _⟩ := Sl.intAt hl (k := 3) (by decide)
  cases e3
  refine .p rfl rfl (.mv rfl) ?_
  refine .p rfl rfl (.extract rfl rfl) ?_
  refine .p rfl rfl (.extract rfl rfl) ?_
  refine .p rfl rfl (.as rfl) ?_
  refine .p rfl rfl (.as rfl) ?_
  refine .nil (.code (.seq (.keep [(2, _), (1, _)] ⟨rfl, rfl, trivial⟩ (.region ?_))))
  refine .call (first := []) (captured := []) rfl rfl rfl rfl (Marks_fn (key := [97]) (by decide)) ?_
  rintro _ w21 ⟨m, rfl, hm, X21⟩
  rw [ex2] at hm ⊢
  obtain ⟨ma, mcap, rfl, _⟩ := Sl.val hm
  obtain ⟨m0, mo0, rfl, _, hm0, _⟩ := Sl.intAt hm (k := 0) (by decide)
  obtain ⟨m1, mo1, e1, _, hm1, _⟩ := Sl.intAt hm (k := 1) (by decide)
  cases e1
  obtain ⟨m3, mo3, e3, _, hm3, _⟩ := Sl.intAt hm (k := 3) (by decide)
  cases e3
  refine .p rfl rfl (.mv rfl) ?_
  refine .p rfl rfl (.extract rfl rfl) ?_
  refine .p rfl rfl (.extract rfl rfl) ?_
  refine .p rfl rfl (.as rfl) ?_
  refine .p rfl rfl (.as rfl) ?_
  refine .nil (.code (.seq (.keep [(4, _), (3, _), (2, _), (1, _)] ⟨rfl, rfl, rfl, rfl, trivial⟩ (.region ?_))))
  refine .call (first := []) (captured := []) rfl rfl rfl rfl (Make_fn (keys := []) Sl.nil) ?_
  rintro _ w25 ⟨s5, rfl, hs5, X25⟩
  rw [ex3] at hs5 ⊢
  refine .p rfl rfl (.mv rfl) ?_
  refine .p rfl rfl (.extract rfl rfl) ?_
  refine .p rfl rfl (.extract rfl rfl) ?_
  refine .p rfl rfl (.as rfl) ?_
  refine .p rfl rfl (.as rfl) ?_
  refine .nil (.code (.seq (.keep [(6, _), (5, _), (4, _), (3, _), (2, _), (1, _)] ⟨rfl, rfl, rfl, rfl, rfl, rfl, trivial⟩ (.region ?_))))
  refine .v rfl rfl (.lits rfl rfl (fun _ => by kernel_rfl)) ?_
  rintro _ w29 ⟨rfl, N29⟩
  have h29 : tBytes.rep All w29 (Value.slice (some { block := w25.heap.size, off := 0 }) 1 1) [0] := Sl.mk (us := [u8 0]) (each_u8 [0]) N29.blk.cells trivial N29.blk.lt (Nat.le_refl _) (by decide) rfl
  refine .call (first := []) (captured := []) rfl rfl rfl rfl (Has_fn (key := [97]) h29 (by decide)) ?_
  rintro _ w30 ⟨rfl, X30⟩
  rw [ex4]
  refine .p rfl rfl (.mv rfl) ?_
  refine .p rfl rfl (.extract rfl rfl) ?_
  refine .p rfl rfl (.extract rfl rfl) ?_
  refine .p rfl rfl (.as rfl) ?_
  refine .p rfl rfl (.as rfl) ?_
  refine .nil (.code (.seq (.keep [(8, _), (7, _), (6, _), (5, _), (4, _), (3, _), (2, _), (1, _)] ⟨rfl, rfl, rfl, rfl, rfl, rfl, rfl, rfl, trivial⟩ (.region ?_))))
  refine .call (first := []) (captured := []) rfl rfl rfl rfl (Make_fn (keys := []) Sl.nil) ?_
  rintro _ w34 ⟨s9, rfl, hs9, X34⟩
  rw [ex5]
  refine .p rfl rfl (.mv rfl) ?_
  refine .p rfl rfl (.extract rfl rfl) ?_
  refine .p rfl rfl (.extract rfl rfl) ?_
  refine .p rfl rfl (.as rfl) ?_
  refine .p rfl rfl (.as rfl) ?_
  refine .nil (.code (.seq (.keep [(10, _), (8, _), (7, _), (6, _), (5, _), (4, _), (3, _), (2, _), (1, _)] ⟨rfl, rfl, rfl, rfl, rfl, rfl, rfl, rfl, rfl, trivial⟩ (.region ?_))))
  refine .call (first := []) (captured := []) rfl rfl rfl rfl (Has_fn (key := [97]) (b := []) Sl.nil (by decide)) ?_
  rintro _ w38 ⟨rfl, X38⟩
  rw [ex6]
  refine .p rfl rfl (.mv rfl) ?_
  refine .p rfl rfl (.extract rfl rfl) ?_
  refine .p rfl rfl (.extract rfl rfl) ?_
  refine .p rfl rfl (.as rfl) ?_
  refine .p rfl rfl (.as rfl) ?_
  refine .nil (.code (.seq (.keep [(12, _), (10, _), (8, _), (7, _), (6, _), (5, _), (4, _), (3, _), (2, _), (1, _)] ⟨rfl, rfl, rfl, rfl, rfl, rfl, rfl, rfl, rfl, rfl, trivial⟩ (.region ?_))))
  refine .v rfl rfl (.make (eb := 1) rfl rfl rfl rfl rfl rfl rfl rfl (by omega)) ?_
  rintro _ w42 ⟨rfl, N42⟩
  have h42 := zeros_rep N42 (by decide) rfl
  refine .p rfl rfl (.bytesStr rfl h42 rfl rfl rfl) ?_
  refine .call (first := []) (captured := []) rfl rfl rfl rfl (Marks_fn (key := List.replicate 257 0) (rep_len 257 (by decide))) ?_
  rintro _ w44 ⟨s13, rfl, hs13, X44⟩
  rw [ex7]
  have Y38 := X38.trans (N42.ext.trans X44)
  have Y30 := (N29.ext.trans X30).trans (X34.trans Y38)
  have Y21 := X25.trans Y30
  refine .p rfl rfl (.mv rfl) ?_
  refine .p rfl rfl (.extract rfl rfl) ?_
  refine .p rfl rfl (.extract rfl rfl) ?_
  refine .p rfl rfl (.as rfl) ?_
  refine .p rfl rfl (.as rfl) ?_
  refine .nil (.code (.seq (.keep [(14, _), (12, _), (10, _), (8, _), (7, _), (6, _), (5, _), (4, _), (3, _), (2, _), (1, _)] ⟨rfl, rfl, rfl, rfl, rfl, rfl, rfl, rfl, rfl, rfl, rfl, trivial⟩ (.region ?_))))
  refine .p rfl rfl (.mv rfl) ?_
  refine .p rfl rfl (.yes (.eq rfl rfl) (rfl)) ?_
  refine .p rfl rfl (.mv rfl) ?_
  refine .p rfl rfl (.mv rfl) ?_
  refine .p rfl rfl (.len rfl rfl) ?_
  refine .p rfl rfl (.yes (.eq rfl rfl) (rfl)) ?_
  refine .p rfl rfl (.pickT rfl rfl) ?_
  refine .p rfl rfl (.mv rfl) ?_
  refine .p rfl rfl (.mv rfl) ?_
  refine .p rfl rfl (.indexAddr1 rfl rfl rfl rfl (by decide)) ?_
  refine .p rfl rfl (.load rfl rfl rfl ((X21.trans Y21).cell hl0 (fun x => x))) ?_
  refine .p rfl rfl (.yes (.eq rfl rfl) (rfl)) ?_
  refine .p rfl rfl (.pickT rfl rfl) ?_
  refine .p rfl rfl (.mv rfl) ?_
  refine .p rfl rfl (.mv rfl) ?_
  refine .p rfl rfl (.indexAddr1 rfl rfl rfl rfl (by decide)) ?_
  refine .p rfl rfl (.load rfl rfl rfl ((X21.trans Y21).cell hl1 (fun x => x))) ?_
  refine .p rfl rfl (.yes (.eq rfl rfl) (rfl)) ?_
  refine .p rfl rfl (.pickT rfl rfl) ?_
  refine .p rfl rfl (.mv rfl) ?_
  refine .p rfl rfl (.mv rfl) ?_
  refine .p rfl rfl (.indexAddr1 rfl rfl rfl rfl (by decide)) ?_
  refine .p rfl rfl (.load rfl rfl rfl ((X21.trans Y21).cell hl2 (fun x => x))) ?_
  refine .p rfl rfl (.yes (.eq rfl rfl) (rfl)) ?_
  refine .p rfl rfl (.pickT rfl rfl) ?_
  refine .p rfl rfl (.mv rfl) ?_
  refine .p rfl rfl (.mv rfl) ?_
  refine .p rfl rfl (.indexAddr1 rfl rfl rfl rfl (by decide)) ?_
  refine .p rfl rfl (.load rfl rfl rfl ((X21.trans Y21).cell hl3 (fun x => x))) ?_
  refine .p rfl rfl (.yes (.eq rfl rfl) (rfl)) ?_
  refine .p rfl rfl (.pickT rfl rfl) ?_
  refine .p rfl rfl (.mv rfl) ?_
  refine .p rfl rfl (.mv rfl) ?_
  refine .p rfl rfl (.yes (.eq rfl rfl) (rfl)) ?_
  refine .p rfl rfl (.pickT rfl rfl) ?_
  refine .p rfl rfl (.mv rfl) ?_
  refine .p rfl rfl (.mv rfl) ?_
  refine .p rfl rfl (.len rfl rfl) ?_
  refine .p rfl rfl (.yes (.eq rfl rfl) (rfl)) ?_
  refine .p rfl rfl (.pickT rfl rfl) ?_
  refine .p rfl rfl (.mv rfl) ?_
  refine .p rfl rfl (.mv rfl) ?_
  refine .p rfl rfl (.indexAddr1 rfl rfl rfl rfl (by decide)) ?_
  refine .p rfl rfl (.load rfl rfl rfl (Y21.cell hm0 (fun x => x))) ?_
  refine .p rfl rfl (.yes (.eq rfl rfl) (rfl)) ?_
  refine .p rfl rfl (.pickT rfl rfl) ?_
  refine .p rfl rfl (.mv rfl) ?_
  refine .p rfl rfl (.mv rfl) ?_
  refine .p rfl rfl (.indexAddr1 rfl rfl rfl rfl (by decide)) ?_
  refine .p rfl rfl (.load rfl rfl rfl (Y21.cell hm1 (fun x => x))) ?_
  refine .p rfl rfl (.yes (.eq rfl rfl) (rfl)) ?_
  refine .p rfl rfl (.pickT rfl rfl) ?_
  refine .p rfl rfl (.mv rfl) ?_
  refine .p rfl rfl (.mv rfl) ?_
  refine .p rfl rfl (.indexAddr1 rfl rfl rfl rfl (by decide)) ?_
  refine .p rfl rfl (.load rfl rfl rfl (Y21.cell hm3 (fun x => x))) ?_
  refine .p rfl rfl (.yes (.eq rfl rfl) (rfl)) ?_
  refine .p rfl rfl (.pickT rfl rfl) ?_
  refine .p rfl rfl (.as rfl) ?_
  refine .nil (.code (.seq (.keep [(15, _), (14, _), (12, _), (10, _), (8, _), (7, _), (6, _), (5, _)] ⟨rfl, rfl, rfl, rfl, rfl, rfl, rfl, rfl, trivial⟩ (.region ?_))))
  refine .p rfl rfl (.mv rfl) ?_
  refine .call (first := []) (captured := []) rfl rfl rfl rfl (alive_fn) ?_
  rintro _ w106 ⟨rfl, X106⟩
  refine .p rfl rfl (.pickT rfl rfl) ?_
  refine .p rfl rfl (.mv rfl) ?_
  refine .p rfl rfl (.mv rfl) ?_
  refine .p rfl rfl (.pickT rfl rfl) ?_
  refine .p rfl rfl (.mv rfl) ?_
  refine .p rfl rfl (.mv rfl) ?_
  refine .p rfl rfl (.yes (.eq rfl rfl) (rfl)) ?_
  refine .p rfl rfl (.pickT rfl rfl) ?_
  refine .p rfl rfl (.mv rfl) ?_
  refine .p rfl rfl (.mv rfl) ?_
  refine .p rfl rfl (.bytesStr rfl (tBytes.ext0 hs5 (Y30.trans X106)) rfl rfl rfl) ?_
  refine .p rfl rfl (.yes (.eqS rfl rfl) (by decide)) ?_
  refine .p rfl rfl (.pickT rfl rfl) ?_
  refine .p rfl rfl (.mv rfl) ?_
  refine .p rfl rfl (.mv rfl) ?_
  refine .p rfl rfl (.not rfl) ?_
  refine .p rfl rfl (.pickT rfl rfl) ?_
  refine .p rfl rfl (.mv rfl) ?_
  refine .p rfl rfl (.mv rfl) ?_
  refine .p rfl rfl (.yes (.eq rfl rfl) (rfl)) ?_
  refine .p rfl rfl (.pickT rfl rfl) ?_
  refine .p rfl rfl (.mv rfl) ?_
  refine .p rfl rfl (.mv rfl) ?_
  refine .p rfl rfl (.yes (.eq rfl rfl) (rfl)) ?_
  refine .p rfl rfl (.pickT rfl rfl) ?_
  refine .p rfl rfl (.mv rfl) ?_
  refine .p rfl rfl (.mv rfl) ?_
  refine .p rfl rfl (.yes (.eq rfl rfl) (rfl)) ?_
  refine .p rfl rfl (.pickT rfl rfl) ?_
  refine .p rfl rfl (.mv rfl) ?_
  refine .p rfl rfl (.mv rfl) ?_
  refine .p rfl rfl (.yes (.eq rfl rfl) (rfl)) ?_
  refine .p rfl rfl (.pickT rfl rfl) ?_
  refine .p rfl rfl (.as rfl) ?_
  refine .nil (.code ?_)
  refine .ret _ rfl ?_
  exact ⟨rfl, X17.trans (X21.trans (Y21.trans X106))⟩
end Go.Proofs.Ytookkbceboccjaa
