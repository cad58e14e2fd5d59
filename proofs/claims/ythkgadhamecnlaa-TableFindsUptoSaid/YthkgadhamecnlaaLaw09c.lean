
/-
  TableFinds: walked.
-/
import Derived.Test.YthkgadhamecnlaaLaw09b
import Derived.Test.YthkgadhamecnlaaEntEq
set_option linter.unusedVariables false
set_option linter.unusedSimpArgs false
set_option maxRecDepth 20000
namespace Go.Proofs.Ythkgadhamecnlaa
open Go page table
theorem TableFinds_fn {w : World} {v : Value} {l : List Entry} {key : Bs} {seq : Int} (h : (Sl tEntry).rep All w v l) (hb : l.length ≤ 1048576) : Fn Try.prog 4 [v, str key, i64 seq] w (fun r w2 => r = .bool true ∧ Ext (fun _ => False) w w2) := by
  obtain ⟨a, cap, rfl, hcap⟩ := Sl.val h
  refine Fn.enter (fun w => Try.call4 _ w) Try.func4 rfl ?_
  refine .seq (.region ?_)
  refine .p rfl rfl (.as rfl) ?_
  refine .nil (.code (.seq (.keep [(0, _), (1, _), (2, _)] ⟨rfl, rfl, rfl, trivial⟩ (.region ?_))))
  refine .call (first := []) (captured := []) rfl rfl rfl rfl (alive9_fn) ?_
  rintro _ w14 ⟨rfl, X14⟩
  refine .p rfl rfl (.as rfl) ?_
  refine .nil (.code (.seq (.seq (.keep [(7, _), (0, _), (1, _), (2, _)] ⟨rfl, rfl, rfl, rfl, trivial⟩ (.region ?_)))))
  refine .p rfl rfl (.mv rfl) ?_
  refine .p rfl rfl (.not rfl) ?_
  refine .nil (.code (.keep [(16, _), (7, _), (0, _), (1, _), (2, _)] ⟨rfl, rfl, rfl, rfl, rfl, trivial⟩ (.condF rfl (.skip (.code (.seq (.seq (.keep [(7, _), (0, _), (1, _), (2, _)] ⟨rfl, rfl, rfl, rfl, trivial⟩ (.region ?_)))))))))
  refine .p rfl rfl (.mv rfl) ?_
  refine .call (first := []) (captured := []) rfl rfl rfl rfl (hvy_fn ((Sl tEntry).ext0 h X14) hb) ?_
  rintro _ w18 ⟨⟨q, rfl⟩, X18⟩
  refine .p rfl rfl (.mv rfl) ?_
  refine .case 19 rfl (fun c19 => ?_) (fun c19 => ?_)
  · refine .skip rfl rfl ?_
    refine .skip rfl rfl ?_
    refine .skip rfl rfl ?_
    refine .p rfl rfl (.pickT rfl rfl) ?_
    refine .p rfl rfl (.mv rfl) ?_
    refine .skip rfl rfl ?_
    refine .skip rfl rfl ?_
    refine .skip rfl rfl ?_
    refine .p rfl rfl (.pickT rfl rfl) ?_
    refine .p rfl rfl (.mv rfl) ?_
    refine .skip rfl rfl ?_
    refine .skip rfl rfl ?_
    refine .p rfl rfl (.pickT rfl rfl) ?_
    refine .p rfl rfl (.mv rfl) ?_
    refine .skip rfl rfl ?_
    refine .skip rfl rfl ?_
    refine .p rfl rfl (.pickT rfl rfl) ?_
    refine .nil (.code (.keep [(36, _), (7, _), (0, _), (1, _), (2, _)] ⟨rfl, rfl, rfl, rfl, rfl, trivial⟩ (.condT rfl (.seq (.keep [(7, _)] ⟨rfl, trivial⟩ (.region ?_))))))
    refine .p rfl rfl (.mv rfl) ?_
    refine .p rfl rfl (.as rfl) ?_
    refine .nil (.code ?_)
    refine .ret _ rfl ?_
    exact ⟨rfl, (by repeat (first | exact Ext.refl _ | assumption | refine Ext.trans (by assumption) ?_))⟩
  · refine .p rfl rfl (.mv rfl) ?_
    refine .p rfl rfl (.lenS rfl rfl) ?_
    refine .p rfl rfl (.lt rfl rfl) ?_
    refine .p rfl rfl (.pickF rfl rfl) ?_
    refine .p rfl rfl (.mv rfl) ?_
    refine .caseD 24 rfl (fun c24 => ?_) (fun c24 => ?_)
    · refine .skip rfl rfl ?_
      refine .skip rfl rfl ?_
      refine .skip rfl rfl ?_
      refine .p rfl rfl (.pickT rfl rfl) ?_
      refine .p rfl rfl (.mv rfl) ?_
      refine .skip rfl rfl ?_
      refine .skip rfl rfl ?_
      refine .p rfl rfl (.pickT rfl rfl) ?_
      refine .p rfl rfl (.mv rfl) ?_
      refine .skip rfl rfl ?_
      refine .skip rfl rfl ?_
      refine .p rfl rfl (.pickT rfl rfl) ?_
      refine .nil (.code (.keep [(36, _), (7, _), (0, _), (1, _), (2, _)] ⟨rfl, rfl, rfl, rfl, rfl, trivial⟩ (.condT rfl (.seq (.keep [(7, _)] ⟨rfl, trivial⟩ (.region ?_))))))
      refine .p rfl rfl (.mv rfl) ?_
      refine .p rfl rfl (.as rfl) ?_
      refine .nil (.code ?_)
      refine .ret _ rfl ?_
      exact ⟨rfl, (by repeat (first | exact Ext.refl _ | assumption | refine Ext.trans (by assumption) ?_))⟩
    · refine .p rfl rfl (.mv rfl) ?_
      refine .p rfl rfl (.lenS rfl rfl) ?_
      refine .p rfl rfl (.gt rfl rfl) ?_
      refine .p rfl rfl (.pickF rfl rfl) ?_
      refine .p rfl rfl (.mv rfl) ?_
      refine .caseD 29 rfl (fun c29 => ?_) (fun c29 => ?_)
      · refine .skip rfl rfl ?_
        refine .skip rfl rfl ?_
        refine .p rfl rfl (.pickT rfl rfl) ?_
        refine .p rfl rfl (.mv rfl) ?_
        refine .skip rfl rfl ?_
        refine .skip rfl rfl ?_
        refine .p rfl rfl (.pickT rfl rfl) ?_
        refine .nil (.code (.keep [(36, _), (7, _), (0, _), (1, _), (2, _)] ⟨rfl, rfl, rfl, rfl, rfl, trivial⟩ (.condT rfl (.seq (.keep [(7, _)] ⟨rfl, trivial⟩ (.region ?_))))))
        refine .p rfl rfl (.mv rfl) ?_
        refine .p rfl rfl (.as rfl) ?_
        refine .nil (.code ?_)
        refine .ret _ rfl ?_
        exact ⟨rfl, (by repeat (first | exact Ext.refl _ | assumption | refine Ext.trans (by assumption) ?_))⟩
      · refine .p rfl rfl (.mv rfl) ?_
        refine .p rfl rfl (.lt rfl rfl) ?_
        refine .p rfl rfl (.pickF rfl rfl) ?_
        refine .p rfl rfl (.mv rfl) ?_
        refine .caseD 33 rfl (fun c33 => ?_) (fun c33 => ?_)
        · refine .skip rfl rfl ?_
          refine .skip rfl rfl ?_
          refine .p rfl rfl (.pickT rfl rfl) ?_
          refine .nil (.code (.keep [(36, _), (7, _), (0, _), (1, _), (2, _)] ⟨rfl, rfl, rfl, rfl, rfl, trivial⟩ (.condT rfl (.seq (.keep [(7, _)] ⟨rfl, trivial⟩ (.region ?_))))))
          refine .p rfl rfl (.mv rfl) ?_
          refine .p rfl rfl (.as rfl) ?_
          refine .nil (.code ?_)
          refine .ret _ rfl ?_
          exact ⟨rfl, (by repeat (first | exact Ext.refl _ | assumption | refine Ext.trans (by assumption) ?_))⟩
        · refine .p rfl rfl (.mv rfl) ?_
          refine .p rfl rfl (.gt rfl rfl) ?_
          refine .p rfl rfl (.pickF rfl rfl) ?_
          refine .nil (.code (.keep [(36, _), (7, _), (0, _), (1, _), (2, _)] ⟨rfl, rfl, rfl, rfl, rfl, trivial⟩ ?_))
          refine .condD rfl (fun c36 => ?_) (fun c36 => ?_)
          · refine .seq (.keep [(7, _)] ⟨rfl, trivial⟩ (.region ?_))
            refine .p rfl rfl (.mv rfl) ?_
            refine .p rfl rfl (.as rfl) ?_
            refine .nil (.code ?_)
            refine .ret _ rfl ?_
            exact ⟨rfl, (by repeat (first | exact Ext.refl _ | assumption | refine Ext.trans (by assumption) ?_))⟩
          · refine .skip (.code (.seq (.keep [(7, _), (0, _), (1, _), (2, _)] ⟨rfl, rfl, rfl, rfl, trivial⟩ (.region ?_))))
            refine .p rfl rfl (.mv rfl) ?_
            refine .call (first := []) (captured := []) rfl rfl rfl rfl (TMake_fn ((Sl tEntry).ext0 h (by repeat (first | exact Ext.refl _ | assumption | refine Ext.trans (by assumption) ?_)))) ?_
            rintro _ w40 ⟨v40, rfl, G40, X40⟩
            refine .p rfl rfl (.mv rfl) ?_
            refine .p rfl rfl (.extract rfl rfl) ?_
            refine .p rfl rfl (.extract rfl rfl) ?_
            refine .p rfl rfl (.as rfl) ?_
            refine .p rfl rfl (.as rfl) ?_
            refine .nil (.code (.seq (.seq (.keep [(9, _), (8, _), (7, _), (0, _), (1, _), (2, _)] ⟨rfl, rfl, rfl, rfl, rfl, rfl, trivial⟩ (.region ?_)))))
            refine .p rfl rfl (.mv rfl) ?_
            refine .p rfl rfl (.ne rfl rfl) ?_
            refine .nil (.code (.keep [(44, _), (8, _), (7, _), (0, _), (1, _), (2, _)] ⟨rfl, rfl, rfl, rfl, rfl, rfl, trivial⟩ ?_))
            refine .condD rfl (fun c44 => ?_) (fun c44 => ?_)
            · refine .seq (.keep [(7, _)] ⟨rfl, trivial⟩ (.region ?_))
              refine .p rfl rfl (.mv rfl) ?_
              refine .p rfl rfl (.as rfl) ?_
              refine .nil (.code ?_)
              refine .ret _ rfl ?_
              exact ⟨rfl, (by repeat (first | exact Ext.refl _ | assumption | refine Ext.trans (by assumption) ?_))⟩
            · refine .skip (.code (.seq (.keep [(8, _), (7, _), (0, _), (1, _), (2, _)] ⟨rfl, rfl, rfl, rfl, rfl, trivial⟩ (.region ?_))))
              refine .p rfl rfl (.mv rfl) ?_
              refine .p rfl rfl (.mv rfl) ?_
              refine .p rfl rfl (.mv rfl) ?_
              refine .call (first := []) (captured := []) rfl rfl rfl rfl (TFind_fn (key := key) (seq := seq) (Gr.rep G40) (by simp only [Lim]; omega)) ?_
              rintro _ w50 ⟨rfl, X50⟩
              have he0 : (makeT l).2 = 0 := Decidable.not_not.1 c44
              have hk : ¬ (key = [] ∨ 256 < key.length) := fun h => h.elim (fun e => by have : key.length = 0 := (by rw [e]; rfl); omega) (fun h => by omega)
              have hsq : ¬ (seq < 0 ∨ 2147483647 < seq) := by omega
              have hFm := find_made he0 hk hsq
              generalize hF : findT (makeT l).1 key seq = F at hFm
              obtain ⟨x, is, ef⟩ := F
              refine .p rfl rfl (.mv rfl) ?_
              refine .p rfl rfl (.extract rfl rfl) ?_
              refine .p rfl rfl (.extract rfl rfl) ?_
              refine .p rfl rfl (.extract rfl rfl) ?_
              refine .v rfl rfl (.alloc rfl rfl) ?_
              rintro _ w10 ⟨rfl, N10⟩
              have z10 := N10.size
              refine .s rfl (.storeAll (n := 4) rfl rfl rfl rfl rfl N10.blk rfl) ?_
              intro w11 P10
              have X10 := N10.ext.then P10.ext (by rintro k rfl _; exact Nat.le_refl _)
              have B10 := P10.blk
              refine .p rfl rfl (.as rfl) ?_
              refine .p rfl rfl (.as rfl) ?_
              refine .nil (.code (.seq (.seq (.keep [(12, _), (11, _), (10, _), (7, _), (0, _), (1, _), (2, _)] ⟨rfl, rfl, rfl, rfl, rfl, rfl, rfl, trivial⟩ (.region ?_)))))
              refine .p rfl rfl (.as rfl) ?_
              refine .nil (.code (.block ?_))
              refine .loop (S := Nat) (fun s => [(0, .slice a l.length cap), (1, str key), (2, i64 seq), (7, .bool true), (10, .pointer (some ⟨w50.heap.size, 0, none⟩)), (11, .bool is), (12, i64 ef), (13, i64 s)]) (fun s => w11) (fun s => s ≤ l.length ∧ ∀ j (h : j < l.length), j < s → fitK key seq l[j] = false) (fun s => l.length - s) 0 ⟨rfl, rfl, rfl, rfl, rfl, rfl, rfl, rfl, trivial⟩ rfl ⟨Nat.zero_le _, fun j _ h => absurd h (Nat.not_lt_zero _)⟩ ?_
              rintro i J ⟨hi', ha⟩ again
              refine .seq (.seq (.region ?_))
              refine .p rfl rfl (.mv rfl) ?_
              refine .p rfl rfl (.mv rfl) ?_
              refine .p rfl rfl (.len rfl rfl) ?_
              refine .p rfl rfl (.lt rfl rfl) ?_
              refine .nil (.code (.keep [(57, _), (0, _), (1, _), (2, _), (7, _), (10, _), (11, _), (12, _), (13, _)] ⟨rfl, rfl, rfl, rfl, rfl, rfl, rfl, rfl, rfl, trivial⟩ ?_))
              refine .condD rfl (fun c57 => ?_) (fun c57 => ?_)
              · have hi : i < l.length := by omega
                obtain ⟨b0, o0, c0, ue, e, _, hcs, hre⟩ := Sl.at h (List.getElem?_eq_getElem hi)
                cases e
                obtain ⟨rfl, h1, h2, h3⟩ := tEntry.val hre
                refine .skip (.code (.seq (.block (.seq (.keep [(0, _), (1, _), (2, _), (7, _), (10, _), (11, _), (12, _), (13, _)] ⟨rfl, rfl, rfl, rfl, rfl, rfl, rfl, rfl, trivial⟩ (.region ?_))))))
                refine .p rfl rfl (.mv rfl) ?_
                refine .p rfl rfl (.mv rfl) ?_
                refine .p rfl rfl (.indexAddr (s := 4) rfl rfl rfl rfl (by omega)) ?_
                refine .p rfl rfl (.fieldAddr rfl rfl rfl rfl) ?_
                refine .p rfl rfl (.load rfl rfl rfl (hcs.ext (S := fun _ => False) (by repeat (first | exact Ext.refl _ | assumption | refine Ext.trans (by assumption) ?_)) (fun x => x) 0 _ rfl)) ?_
                refine .p rfl rfl (.mv rfl) ?_
                refine .p rfl rfl (.eqS rfl rfl) ?_
                refine .p rfl rfl (.mv rfl) ?_
                refine .caseD 67 rfl (fun c67 => ?_) (fun c67 => ?_)
                · refine .p rfl rfl (.mv rfl) ?_
                  refine .p rfl rfl (.mv rfl) ?_
                  refine .p rfl rfl (.indexAddr (s := 4) rfl rfl rfl rfl (by omega)) ?_
                  refine .p rfl rfl (.fieldAddr rfl rfl rfl rfl) ?_
                  refine .p rfl rfl (.load rfl rfl rfl (hcs.ext (S := fun _ => False) (by repeat (first | exact Ext.refl _ | assumption | refine Ext.trans (by assumption) ?_)) (fun x => x) 2 _ rfl)) ?_
                  refine .p rfl rfl (.mv rfl) ?_
                  refine .p rfl rfl (.le rfl rfl) ?_
                  refine .p rfl rfl (.pickT rfl rfl) ?_
                  refine .nil (.code (.keep [(75, _), (0, _), (1, _), (2, _), (7, _), (10, _), (11, _), (12, _), (13, _)] ⟨rfl, rfl, rfl, rfl, rfl, rfl, rfl, rfl, rfl, trivial⟩ ?_))
                  refine .condD rfl (fun c75 => ?_) (fun c75 => ?_)
                  · have hfit : fitK key seq l[i] = true := by unfold fitK; rw [decide_eq_true c67, decide_eq_true c75]; rfl
                    rw [found_at hi hfit ha] at hFm
                    cases hFm
                    refine .seq (.keep [(0, _), (7, _), (10, _), (11, _), (12, _), (13, _)] ⟨rfl, rfl, rfl, rfl, rfl, rfl, trivial⟩ (.draws (by kernel_rfl) (by kernel_rfl) ?_))
                    refine .p rfl rfl (.mv rfl) ?_
                    refine .p rfl rfl (.mv rfl) ?_
                    refine .p rfl rfl (.mv rfl) ?_
                    refine .p rfl rfl (.yes (.eq rfl rfl) (rfl)) ?_
                    refine .p rfl rfl (.pickT rfl rfl) ?_
                    refine .p rfl rfl (.mv rfl) ?_
                    refine .p rfl rfl (.mv rfl) ?_
                    refine .p rfl rfl (.pickT rfl rfl) ?_
                    refine .p rfl rfl (.mv rfl) ?_
                    refine .p rfl rfl (.loadA (n := 4) rfl rfl rfl rfl rfl B10.cells) ?_
                    refine .p rfl rfl (.mv rfl) ?_
                    refine .p rfl rfl (.mv rfl) ?_
                    refine .p rfl rfl (.indexAddr (s := 4) rfl rfl rfl rfl (by omega)) ?_
                    refine .p rfl rfl (.loadA (n := 4) rfl rfl rfl rfl rfl (hcs.ext (S := fun _ => False) (by repeat (first | exact Ext.refl _ | assumption | refine Ext.trans (by assumption) ?_)) (fun x => x))) ?_
                    refine .p rfl rfl (.cast (.eqA (xs := [_, _, _, _]) (ys := [_, _, _, _]) rfl rfl (by kernel_rfl) (entry_eq l[i] l[i])) (show Value.bool _ = Value.bool true by rw [decide_eq_true rfl])) ?_
                    refine .p rfl rfl (.pickT rfl rfl) ?_
                    refine .p rfl rfl (.as rfl) ?_
                    refine .nil (.code ?_)
                    refine .ret _ rfl ?_
                    exact ⟨rfl, (by repeat (first | exact Ext.refl _ | assumption | refine Ext.trans (by assumption) ?_))⟩
                  · refine .skip (.blk (.code (.keep [(0, _), (1, _), (2, _), (7, _), (10, _), (11, _), (12, _), (13, _)] ⟨rfl, rfl, rfl, rfl, rfl, rfl, rfl, rfl, trivial⟩ (.region ?_))))
                    refine .p rfl rfl (.mv rfl) ?_
                    refine .p rfl rfl (.add rfl rfl (by omega)) ?_
                    refine .p rfl rfl (.as rfl) ?_
                    refine .nil ?_
                    have hfit : fitK key seq l[i] = false := by unfold fitK; first | (rw [decide_eq_false c75, Bool.and_false]) | (rw [decide_eq_false c67, Bool.false_and])
                    exact (again (i + 1) ⟨by omega, (fun j hj hlt => by
                      rcases Nat.lt_or_ge j i with h2 | h2
                      · exact ha j hj h2
                      · have : j = i := by omega
                        subst this
                        exact hfit)⟩ (by show _ - (i + 1) < _ - i; omega)).of ⟨rfl, rfl, rfl, rfl, rfl, rfl, rfl, rfl, trivial⟩
                · refine .skip rfl rfl ?_
                  refine .skip rfl rfl ?_
                  refine .skip rfl rfl ?_
                  refine .skip rfl rfl ?_
                  refine .skip rfl rfl ?_
                  refine .skip rfl rfl ?_
                  refine .skip rfl rfl ?_
                  refine .p rfl rfl (.pickF rfl rfl) ?_
                  refine .nil (.code (.keep [(75, _), (0, _), (1, _), (2, _), (7, _), (10, _), (11, _), (12, _), (13, _)] ⟨rfl, rfl, rfl, rfl, rfl, rfl, rfl, rfl, rfl, trivial⟩ (.condF rfl (.skip (.blk (.code (.keep [(0, _), (1, _), (2, _), (7, _), (10, _), (11, _), (12, _), (13, _)] ⟨rfl, rfl, rfl, rfl, rfl, rfl, rfl, rfl, trivial⟩ (.region ?_))))))))
                  refine .p rfl rfl (.mv rfl) ?_
                  refine .p rfl rfl (.add rfl rfl (by omega)) ?_
                  refine .p rfl rfl (.as rfl) ?_
                  refine .nil ?_
                  have hfit : fitK key seq l[i] = false := by unfold fitK; first | (rw [decide_eq_false c75, Bool.and_false]) | (rw [decide_eq_false c67, Bool.false_and])
                  exact (again (i + 1) ⟨by omega, (fun j hj hlt => by
                    rcases Nat.lt_or_ge j i with h2 | h2
                    · exact ha j hj h2
                    · have : j = i := by omega
                      subst this
                      exact hfit)⟩ (by show _ - (i + 1) < _ - i; omega)).of ⟨rfl, rfl, rfl, rfl, rfl, rfl, rfl, rfl, trivial⟩
              · rw [found_no (fun j hj => ha j hj (by omega))] at hFm
                cases hFm
                refine .exit rfl (.code (.seq (.keep [(7, _), (10, _), (11, _), (12, _)] ⟨rfl, rfl, rfl, rfl, trivial⟩ (.region ?_))))
                refine .p rfl rfl (.mv rfl) ?_
                refine .p rfl rfl (.mv rfl) ?_
                refine .p rfl rfl (.mv rfl) ?_
                refine .p rfl rfl (.yes (.eq rfl rfl) (rfl)) ?_
                refine .p rfl rfl (.pickT rfl rfl) ?_
                refine .p rfl rfl (.mv rfl) ?_
                refine .p rfl rfl (.mv rfl) ?_
                refine .p rfl rfl (.not rfl) ?_
                refine .p rfl rfl (.pickT rfl rfl) ?_
                refine .p rfl rfl (.mv rfl) ?_
                refine .p rfl rfl (.loadA (n := 4) rfl rfl rfl rfl rfl B10.cells) ?_
                refine .p rfl rfl (.build (vs := []) (cs := [str page.zeroE.key, str page.zeroE.value, i64 page.zeroE.seq, .bool page.zeroE.gone]) rfl (fun _ => by kernel_rfl)) ?_
                refine .p rfl rfl (.cast (.eqA (xs := [_, _, _, _]) (ys := [_, _, _, _]) rfl rfl (by kernel_rfl) (entry_eq page.zeroE page.zeroE)) (show Value.bool _ = Value.bool true by rw [decide_eq_true rfl])) ?_
                refine .p rfl rfl (.pickT rfl rfl) ?_
                refine .p rfl rfl (.as rfl) ?_
                refine .nil (.code ?_)
                refine .ret _ rfl ?_
                exact ⟨rfl, (by repeat (first | exact Ext.refl _ | assumption | refine Ext.trans (by assumption) ?_))⟩
end Go.Proofs.Ythkgadhamecnlaa
