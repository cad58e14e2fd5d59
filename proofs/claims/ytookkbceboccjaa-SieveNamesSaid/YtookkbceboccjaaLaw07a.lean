/-
  The statements of layer 7 that ask no reference: their walks and plain laws.
-/
import Derived.Test.YtookkbceboccjaaSieve
import Derived.Test.YtookkbceboccjaaApp
import Derived.Test.YtookkbceboccjaaRow
set_option linter.unusedVariables false
namespace Go.Proofs.Ytookkbceboccjaa
open Go sieve
theorem alive_make : makeF [[97]] 8 = ([15], 0) := by decide +kernel
theorem alive_has : hasF [15] [97] = (true, 0) := by decide +kernel
theorem alive_fn {w : World} : Fn Try.prog 12 [] w (fun r w2 => r = .bool true ∧ Ext (fun _ => False) w w2) := by
  refine Fn.enter (fun w => Try.call12 _ w) Try.func12 rfl ?_
  refine .seq (.region ?_)
  refine .p rfl rfl (.as rfl) ?_
  refine .nil (.code (.seq (.keep [] trivial (.region ?_))))
  refine .v rfl rfl (.lits rfl rfl (fun _ => by kernel_rfl)) ?_
  rintro _ w6 ⟨rfl, N6⟩
  have h6 : tStrs.rep All w6 (Value.slice (some { block := w.heap.size, off := 0 }) 1 1) [[97]] := Sl.mk (us := [str [97]]) (each_str (l := [[97]]) (by decide)) N6.blk.cells trivial N6.blk.lt (Nat.le_refl _) (by decide) rfl
  refine .call (first := []) (captured := []) rfl rfl rfl rfl (Make_fn (keys := [[97]]) (many := 8) h6) ?_
  rintro _ w7 ⟨v, rfl, hv, X7⟩
  rw [alive_make] at hv ⊢
  obtain ⟨a, cap, rfl, _⟩ := Sl.val hv
  obtain ⟨bb, bo, rfl, _, hb⟩ := Sl.byteAt hv (k := 0) (by decide)
  refine .p rfl rfl (.mv rfl) ?_
  refine .p rfl rfl (.extract rfl rfl) ?_
  refine .p rfl rfl (.extract rfl rfl) ?_
  refine .p rfl rfl (.as rfl) ?_
  refine .p rfl rfl (.as rfl) ?_
  refine .nil (.code (.seq (.keep [(2, _), (1, _)] ⟨rfl, rfl, trivial⟩ (.region ?_))))
  refine .p rfl rfl (.mv rfl) ?_
  refine .call (first := []) (captured := []) rfl rfl rfl rfl (Has_fn (key := [97]) (allOf hv) (by decide)) ?_
  rintro _ w12 ⟨rfl, X12⟩
  rw [alive_has]
  refine .p rfl rfl (.mv rfl) ?_
  refine .p rfl rfl (.extract rfl rfl) ?_
  refine .p rfl rfl (.extract rfl rfl) ?_
  refine .p rfl rfl (.as rfl) ?_
  refine .p rfl rfl (.as rfl) ?_
  refine .nil (.code (.seq (.keep [(4, _), (3, _), (2, _), (1, _)] ⟨rfl, rfl, rfl, rfl, trivial⟩ (.region ?_))))
  refine .p rfl rfl (.mv rfl) ?_
  refine .p rfl rfl (.yes (.eq rfl rfl) (rfl)) ?_
  refine .p rfl rfl (.mv rfl) ?_
  refine .p rfl rfl (.mv rfl) ?_
  refine .p rfl rfl (.len rfl rfl) ?_
  refine .p rfl rfl (.yes (.eq rfl rfl) (rfl)) ?_
  refine .p rfl rfl (.pickT rfl rfl) ?_
  refine .p rfl rfl (.mv rfl) ?_
  refine .p rfl rfl (.mv rfl) ?_
  refine .p rfl rfl (.indexAddr1 rfl rfl rfl rfl (by decide)) ?_
  refine .p rfl rfl (.load rfl rfl rfl (X12.cell hb (fun x => x))) ?_
  refine .p rfl rfl (.yes (.eq rfl rfl) (rfl)) ?_
  refine .p rfl rfl (.pickT rfl rfl) ?_
  refine .p rfl rfl (.mv rfl) ?_
  refine .p rfl rfl (.mv rfl) ?_
  refine .p rfl rfl (.pickT rfl rfl) ?_
  refine .p rfl rfl (.mv rfl) ?_
  refine .p rfl rfl (.mv rfl) ?_
  refine .p rfl rfl (.yes (.eq rfl rfl) (rfl)) ?_
  refine .p rfl rfl (.pickT rfl rfl) ?_
  refine .p rfl rfl (.as rfl) ?_
  refine .nil (.code ?_)
  refine .ret _ rfl ?_
  exact ⟨rfl, N6.ext.trans (X7.trans X12)⟩
theorem marksF_ok {key : Bs} {many : Int} (h : (marksF key many).2 = 0) : marksF key many = (marksL key many.toNat, 0) ∧ key.length ≤ 256 ∧ 1 ≤ many ∧ many ≤ 65536 := by
  unfold marksF at *
  split at h
  · cases h
  · split at h
    · cases h
    · rw [if_neg (by assumption), if_neg (by assumption)]
      exact ⟨rfl, by omega, by omega, by omega⟩
theorem marksF_bad {key : Bs} {many : Int} (h : ¬ (marksF key many).2 = 0) : (marksF key many).1 = [] ∧ (256 < key.length ∨ many < 1 ∨ 65536 < many) := by
  unfold marksF at *
  split
  · exact ⟨rfl, by omega⟩
  · split
    · exact ⟨rfl, by omega⟩
    · rw [if_neg (by assumption), if_neg (by assumption)] at h
      exact absurd rfl h
theorem SieveMarks_fn {w : World} {key : Bs} {many : Int} (hk : key.length < Lim) : Fn Try.prog 8 [str key, i64 many] w (fun r w2 => r = .bool true ∧ Ext (fun _ => False) w w2) := by
  refine Fn.enter (fun w => Try.call8 _ w) Try.func8 rfl ?_
  refine .seq (.region ?_)
  refine .p rfl rfl (.as rfl) ?_
  refine .nil (.code (.seq (.keep [(0, _), (1, _)] ⟨rfl, rfl, trivial⟩ (.region ?_))))
  refine .call (first := []) (captured := []) rfl rfl rfl rfl (alive_fn) ?_
  rintro _ w11 ⟨rfl, X11⟩
  refine .p rfl rfl (.as rfl) ?_
  refine .nil (.code (.seq (.seq (.keep [(5, _), (0, _), (1, _)] ⟨rfl, rfl, rfl, trivial⟩ (.region ?_)))))
  refine .p rfl rfl (.mv rfl) ?_
  refine .p rfl rfl (.not rfl) ?_
  refine .nil (.code (.keep [(13, _), (5, _), (0, _), (1, _)] ⟨rfl, rfl, rfl, rfl, trivial⟩ (.condF rfl (.skip (.code (.seq (.keep [(5, _), (0, _), (1, _)] ⟨rfl, rfl, rfl, trivial⟩ (.region ?_))))))))
  refine .p rfl rfl (.mv rfl) ?_
  refine .p rfl rfl (.mv rfl) ?_
  refine .call (first := []) (captured := []) rfl rfl rfl rfl (Marks_fn hk) ?_
  rintro _ w17 ⟨l, rfl, hl, X17⟩
  obtain ⟨a, cap, rfl, _⟩ := Sl.val hl
  refine .p rfl rfl (.mv rfl) ?_
  refine .p rfl rfl (.extract rfl rfl) ?_
  refine .p rfl rfl (.extract rfl rfl) ?_
  refine .p rfl rfl (.as rfl) ?_
  refine .p rfl rfl (.as rfl) ?_
  refine .nil (.code (.seq (.keep [(7, _), (6, _), (5, _), (0, _), (1, _)] ⟨rfl, rfl, rfl, rfl, rfl, trivial⟩ (.region ?_))))
  refine .p rfl rfl (.mv rfl) ?_
  refine .p rfl rfl (.mv rfl) ?_
  refine .call (first := []) (captured := []) rfl rfl rfl rfl (Marks_fn hk) ?_
  rintro _ w23 ⟨m, rfl, hm, X23⟩
  obtain ⟨a', cap', rfl, _⟩ := Sl.val hm
  refine .p rfl rfl (.mv rfl) ?_
  refine .p rfl rfl (.extract rfl rfl) ?_
  refine .p rfl rfl (.extract rfl rfl) ?_
  refine .p rfl rfl (.as rfl) ?_
  refine .p rfl rfl (.as rfl) ?_
  refine .nil (.code (.seq (.seq (.keep [(9, _), (8, _), (7, _), (6, _), (5, _), (0, _), (1, _)] ⟨rfl, rfl, rfl, rfl, rfl, rfl, rfl, trivial⟩ (.region ?_)))))
  refine .p rfl rfl (.mv rfl) ?_
  refine .p rfl rfl (.ne rfl rfl) ?_
  refine .nil (.code (.keep [(27, _), (9, _), (8, _), (7, _), (6, _), (5, _), (0, _), (1, _)] ⟨rfl, rfl, rfl, rfl, rfl, rfl, rfl, rfl, trivial⟩ ?_))
  refine .condD rfl (fun c27 => ?_) (fun c27 => ?_)
  · refine .seq (.keep [(9, _), (7, _), (6, _), (5, _), (0, _), (1, _)] ⟨rfl, rfl, rfl, rfl, rfl, rfl, trivial⟩ (.region ?_))
    refine .p rfl rfl (.mv rfl) ?_
    refine .p rfl rfl (.mv rfl) ?_
    refine .p rfl rfl (.mv rfl) ?_
    refine .p rfl rfl (.mv rfl) ?_
    refine .p rfl rfl (.yes (.eq rfl rfl) (rfl)) ?_
    refine .p rfl rfl (.pickT rfl rfl) ?_
    refine .p rfl rfl (.mv rfl) ?_
    refine .p rfl rfl (.mv rfl) ?_
    refine .p rfl rfl (.len rfl rfl) ?_
    refine .p rfl rfl (.yes (.eq rfl rfl) (by rw [(marksF_bad c27).1]; rfl)) ?_
    refine .p rfl rfl (.pickT rfl rfl) ?_
    refine .p rfl rfl (.mv rfl) ?_
    refine .p rfl rfl (.mv rfl) ?_
    refine .p rfl rfl (.lenS rfl rfl) ?_
    refine .p rfl rfl (.gt rfl rfl) ?_
    refine .p rfl rfl (.mv rfl) ?_
    refine .caseD 43 rfl (fun c43 => ?_) (fun c43 => ?_)
    · refine .skip rfl rfl ?_
      refine .skip rfl rfl ?_
      refine .p rfl rfl (.pickT rfl rfl) ?_
      refine .p rfl rfl (.mv rfl) ?_
      refine .skip rfl rfl ?_
      refine .skip rfl rfl ?_
      refine .p rfl rfl (.pickT rfl rfl) ?_
      refine .p rfl rfl (.pickT rfl rfl) ?_
      refine .p rfl rfl (.as rfl) ?_
      refine .nil (.code ?_)
      refine .ret _ rfl ?_
      exact ⟨rfl, X11.trans (X17.trans X23)⟩
    · refine .p rfl rfl (.mv rfl) ?_
      refine .p rfl rfl (.lt rfl rfl) ?_
      refine .p rfl rfl (.pickF rfl rfl) ?_
      refine .p rfl rfl (.mv rfl) ?_
      refine .caseD 47 rfl (fun c47 => ?_) (fun c47 => ?_)
      · refine .skip rfl rfl ?_
        refine .skip rfl rfl ?_
        refine .p rfl rfl (.pickT rfl rfl) ?_
        refine .p rfl rfl (.pickT rfl rfl) ?_
        refine .p rfl rfl (.as rfl) ?_
        refine .nil (.code ?_)
        refine .ret _ rfl ?_
        exact ⟨rfl, X11.trans (X17.trans X23)⟩
      · refine .p rfl rfl (.mv rfl) ?_
        refine .p rfl rfl (.yes (.gt rfl rfl) (by have := (marksF_bad c27).2; omega)) ?_
        refine .p rfl rfl (.pickF rfl rfl) ?_
        refine .p rfl rfl (.pickT rfl rfl) ?_
        refine .p rfl rfl (.as rfl) ?_
        refine .nil (.code ?_)
        refine .ret _ rfl ?_
        exact ⟨rfl, X11.trans (X17.trans X23)⟩
  · have hm0 : (marksF key many).2 = 0 := Decidable.byContradiction c27
    obtain ⟨hmf, _, hm1, hm2⟩ := marksF_ok hm0
    rw [hmf] at hl hm ⊢
    dsimp only at hl hm
    have hl4 : ((marksL key many.toNat).length : Int) = 4 := by simp [marksL_length]
    refine .skip (.code (.seq (.seq (.keep [(9, _), (8, _), (6, _), (5, _), (1, _)] ⟨rfl, rfl, rfl, rfl, rfl, trivial⟩ (.region ?_)))))
    refine .p rfl rfl (.mv rfl) ?_
    refine .p rfl rfl (.no (.ne rfl rfl) (fun h => h rfl)) ?_
    refine .p rfl rfl (.mv rfl) ?_
    refine .p rfl rfl (.mv rfl) ?_
    refine .p rfl rfl (.len rfl rfl) ?_
    refine .p rfl rfl (.no (.ne rfl rfl) (fun h => h hl4)) ?_
    refine .p rfl rfl (.pickF rfl rfl) ?_
    refine .p rfl rfl (.mv rfl) ?_
    refine .p rfl rfl (.mv rfl) ?_
    refine .p rfl rfl (.len rfl rfl) ?_
    refine .p rfl rfl (.no (.ne rfl rfl) (fun h => h hl4)) ?_
    refine .p rfl rfl (.pickF rfl rfl) ?_
    refine .nil (.code (.keep [(63, _), (8, _), (6, _), (5, _), (1, _)] ⟨rfl, rfl, rfl, rfl, rfl, trivial⟩ (.condF rfl (.skip (.code (.seq (.seq (.keep [(8, _), (6, _), (5, _), (1, _)] ⟨rfl, rfl, rfl, rfl, trivial⟩ (.region ?_)))))))))
    refine .p rfl rfl (.as rfl) ?_
    refine .nil (.code (.block ?_))
    refine .loop (S := Nat) (fun s => [(10, i64 s), (6, .slice a (marksL key many.toNat).length cap), (8, .slice a' (marksL key many.toNat).length cap'), (1, i64 many), (5, .bool true)]) (fun s => w23) (fun s => s ≤ 4) (fun s => 4 - s) 0 ⟨rfl, rfl, rfl, rfl, rfl, trivial⟩ rfl (Nat.zero_le _) ?_
    rintro k J hk4 again
    refine .seq (.seq (.region ?_))
    refine .p rfl rfl (.mv rfl) ?_
    refine .p rfl rfl (.lt rfl rfl) ?_
    refine .nil (.code (.keep [(65, _), (10, _), (6, _), (8, _), (1, _), (5, _)] ⟨rfl, rfl, rfl, rfl, rfl, rfl, trivial⟩ ?_))
    refine .condD rfl (fun c65 => ?_) (fun c65 => ?_)
    · obtain ⟨b1, o1, rfl, _, hc1, _⟩ := Sl.intAt hl (k := k) (by show k < (marksL key many.toNat).length; omega)
      obtain ⟨b2, o2, rfl, _, hc2, _⟩ := Sl.intAt hm (k := k) (by show k < (marksL key many.toNat).length; omega)
      have hc1 := X23.cell hc1 (fun x => x)
      have hbd := marksL_bd (key := key) (m := many.toNat) (by omega) (by omega) ((marksL key many.toNat)[k]'(by omega)) (List.getElem_mem _)
      refine .skip (.code (.seq (.block (.seq (.keep [(10, _), (6, _), (8, _), (1, _), (5, _)] ⟨rfl, rfl, rfl, rfl, rfl, trivial⟩ (.draws (by kernel_rfl) (by kernel_rfl) ?_))))))
      refine .p rfl rfl (.mv rfl) ?_
      refine .p rfl rfl (.mv rfl) ?_
      refine .p rfl rfl (.indexAddr1 rfl rfl rfl rfl (by omega)) ?_
      refine .p rfl rfl (.load rfl rfl rfl hc1) ?_
      refine .p rfl rfl (.no (.lt rfl rfl) (by omega)) ?_
      refine .p rfl rfl (.mv rfl) ?_
      refine .p rfl rfl (.mv rfl) ?_
      refine .p rfl rfl (.mv rfl) ?_
      refine .p rfl rfl (.indexAddr1 rfl rfl rfl rfl (by omega)) ?_
      refine .p rfl rfl (.load rfl rfl rfl hc1) ?_
      refine .p rfl rfl (.mv rfl) ?_
      refine .p rfl rfl (.no (.ge rfl rfl) (by omega)) ?_
      refine .p rfl rfl (.pickF rfl rfl) ?_
      refine .p rfl rfl (.mv rfl) ?_
      refine .p rfl rfl (.mv rfl) ?_
      refine .p rfl rfl (.mv rfl) ?_
      refine .p rfl rfl (.indexAddr1 rfl rfl rfl rfl (by omega)) ?_
      refine .p rfl rfl (.load rfl rfl rfl hc1) ?_
      refine .p rfl rfl (.mv rfl) ?_
      refine .p rfl rfl (.mv rfl) ?_
      refine .p rfl rfl (.indexAddr1 rfl rfl rfl rfl (by omega)) ?_
      refine .p rfl rfl (.load rfl rfl rfl hc2) ?_
      refine .p rfl rfl (.no (.ne rfl rfl) (fun h => h rfl)) ?_
      refine .p rfl rfl (.pickF rfl rfl) ?_
      refine .nil (.code (.keep [(91, _), (10, _), (6, _), (8, _), (1, _), (5, _)] ⟨rfl, rfl, rfl, rfl, rfl, rfl, trivial⟩ (.condF rfl (.skip (.blk (.code (.keep [(10, _), (6, _), (8, _), (1, _), (5, _)] ⟨rfl, rfl, rfl, rfl, rfl, trivial⟩ (.region ?_))))))))
      refine .p rfl rfl (.mv rfl) ?_
      refine .p rfl rfl (.add rfl rfl (by omega)) ?_
      refine .p rfl rfl (.as rfl) ?_
      refine .nil ?_
      exact (again (k + 1) (by show k + 1 ≤ 4; omega) (by show 4 - (k + 1) < 4 - k; omega)).of ⟨rfl, rfl, rfl, rfl, rfl, trivial⟩
    · refine .exit rfl (.code (.seq (.keep [(5, _)] ⟨rfl, trivial⟩ (.region ?_))))
      refine .p rfl rfl (.mv rfl) ?_
      refine .p rfl rfl (.as rfl) ?_
      refine .nil (.code ?_)
      refine .ret _ rfl ?_
      exact ⟨rfl, X11.trans (X17.trans X23)⟩
end Go.Proofs.Ytookkbceboccjaa
