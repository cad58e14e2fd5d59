/-
  PageFinds: walked.
-/
import Derived.Test.YtgolflhoajafhaaLaw08d
set_option linter.unusedVariables false
set_option linter.unusedSimpArgs false
set_option maxRecDepth 20000
namespace Go.Proofs.Ytgolflhoajafhaa
open Go page
theorem page_found {l : List Entry} {key : Bs} {i : Nat} (h : (makeE l).2 = 0) (hk : ¬ (key = [] ∨ 256 < key.length)) (hi : i < l.length) (he : l[i].key = key) (ha : ∀ j (h : j < l.length), j < i → ¬ l[j].key = key) : findF (makeE l).1 key = (l[i], true, 0) := by
  have e : readE (makeE l).1 = (l, 0) := by rw [make_ok h]; exact read_page h
  have hx : (readE (makeE l).1).1.findIdx? (isK key) = some i := by
    rw [e]
    exact List.findIdx?_eq_some_iff_getElem.2 ⟨hi, decide_eq_true he, fun j hj => by have := ha j (by omega) hj; simpa [isK] using this⟩
  rw [findF_some (by rw [e]) hk hx, e]
  simp only
  rw [List.getD_eq_getElem?_getD, List.getElem?_eq_getElem hi]
  rfl
theorem page_missed {l : List Entry} {key : Bs} (h : (makeE l).2 = 0) (hk : ¬ (key = [] ∨ 256 < key.length)) (ha : ∀ j (h : j < l.length), ¬ l[j].key = key) : findF (makeE l).1 key = (zeroE, false, 0) := by
  have e : readE (makeE l).1 = (l, 0) := by rw [make_ok h]; exact read_page h
  have hx : (readE (makeE l).1).1.findIdx? (isK key) = none := by
    rw [e]
    exact List.findIdx?_eq_none_iff.2 (fun x hx => by
      obtain ⟨j, hj, rfl⟩ := List.getElem_of_mem hx
      have := ha j hj
      simpa [isK] using this)
  rw [findF_none (by rw [e]) hk hx]
theorem PageFinds_fn {w : World} {v : Value} {l : List Entry} {key : Bs} (h : (Sl tEntry).rep All w v l) (hb : l.length ≤ 1048576) : Fn Try.prog 7 [v, str key] w (fun r w2 => r = .bool true ∧ Ext (fun _ => False) w w2) := by
  obtain ⟨a, cap, rfl, hcap⟩ := Sl.val h
  refine Fn.enter (fun w => Try.call7 _ w) Try.func7 rfl ?_
  refine .seq (.region ?_)
  refine .p rfl rfl (.as rfl) ?_
  refine .nil (.code (.seq (.keep [(0, _), (1, _)] ⟨rfl, rfl, trivial⟩ (.region ?_))))
  refine .call (first := []) (captured := []) rfl rfl rfl rfl (alive_fn) ?_
  rintro _ w12 ⟨rfl, X12⟩
  refine .p rfl rfl (.as rfl) ?_
  refine .nil (.code (.seq (.seq (.keep [(5, _), (0, _), (1, _)] ⟨rfl, rfl, rfl, trivial⟩ (.region ?_)))))
  refine .p rfl rfl (.mv rfl) ?_
  refine .p rfl rfl (.not rfl) ?_
  refine .nil (.code (.keep [(14, _), (5, _), (0, _), (1, _)] ⟨rfl, rfl, rfl, rfl, trivial⟩ (.condF rfl (.skip (.code (.seq (.seq (.keep [(5, _), (0, _), (1, _)] ⟨rfl, rfl, rfl, trivial⟩ (.region ?_)))))))))
  refine .p rfl rfl (.mv rfl) ?_
  refine .call (first := []) (captured := []) rfl rfl rfl rfl (heavy_fn ((Sl tEntry).ext0 h X12) hb) ?_
  rintro _ w16 ⟨⟨q, rfl⟩, X16⟩
  refine .p rfl rfl (.mv rfl) ?_
  refine .case 17 rfl (fun c17 => ?_) (fun c17 => ?_)
  · refine .skip rfl rfl ?_
    refine .skip rfl rfl ?_
    refine .skip rfl rfl ?_
    refine .p rfl rfl (.pickT rfl rfl) ?_
    refine .p rfl rfl (.mv rfl) ?_
    refine .skip rfl rfl ?_
    refine .skip rfl rfl ?_
    refine .skip rfl rfl ?_
    refine .p rfl rfl (.pickT rfl rfl) ?_
    refine .nil (.code (.keep [(26, _), (5, _), (0, _), (1, _)] ⟨rfl, rfl, rfl, rfl, trivial⟩ (.condT rfl (.seq (.keep [(5, _)] ⟨rfl, trivial⟩ (.region ?_))))))
    refine .p rfl rfl (.mv rfl) ?_
    refine .p rfl rfl (.as rfl) ?_
    refine .nil (.code ?_)
    refine .ret _ rfl ?_
    exact ⟨rfl, (by repeat (first | exact Ext.refl _ | assumption | refine Ext.trans (by assumption) ?_))⟩
  · refine .p rfl rfl (.mv rfl) ?_
    refine .p rfl rfl (.lenS rfl rfl) ?_
    refine .p rfl rfl (.lt rfl rfl) ?_
    refine .p rfl rfl (.pickF rfl rfl) ?_
    refine .p rfl rfl (.mv rfl) ?_
    refine .caseD 22 rfl (fun c22 => ?_) (fun c22 => ?_)
    · refine .skip rfl rfl ?_
      refine .skip rfl rfl ?_
      refine .skip rfl rfl ?_
      refine .p rfl rfl (.pickT rfl rfl) ?_
      refine .nil (.code (.keep [(26, _), (5, _), (0, _), (1, _)] ⟨rfl, rfl, rfl, rfl, trivial⟩ (.condT rfl (.seq (.keep [(5, _)] ⟨rfl, trivial⟩ (.region ?_))))))
      refine .p rfl rfl (.mv rfl) ?_
      refine .p rfl rfl (.as rfl) ?_
      refine .nil (.code ?_)
      refine .ret _ rfl ?_
      exact ⟨rfl, (by repeat (first | exact Ext.refl _ | assumption | refine Ext.trans (by assumption) ?_))⟩
    · refine .p rfl rfl (.mv rfl) ?_
      refine .p rfl rfl (.lenS rfl rfl) ?_
      refine .p rfl rfl (.gt rfl rfl) ?_
      refine .p rfl rfl (.pickF rfl rfl) ?_
      refine .nil (.code (.keep [(26, _), (5, _), (0, _), (1, _)] ⟨rfl, rfl, rfl, rfl, trivial⟩ ?_))
      refine .condD rfl (fun c26 => ?_) (fun c26 => ?_)
      · refine .seq (.keep [(5, _)] ⟨rfl, trivial⟩ (.region ?_))
        refine .p rfl rfl (.mv rfl) ?_
        refine .p rfl rfl (.as rfl) ?_
        refine .nil (.code ?_)
        refine .ret _ rfl ?_
        exact ⟨rfl, (by repeat (first | exact Ext.refl _ | assumption | refine Ext.trans (by assumption) ?_))⟩
      · refine .skip (.code (.seq (.keep [(5, _), (0, _), (1, _)] ⟨rfl, rfl, rfl, trivial⟩ (.region ?_))))
        refine .p rfl rfl (.mv rfl) ?_
        refine .call (first := []) (captured := []) rfl rfl rfl rfl (Make_fn ((Sl tEntry).ext0 h (by repeat (first | exact Ext.refl _ | assumption | refine Ext.trans (by assumption) ?_)))) ?_
        rintro _ w30 ⟨v30, rfl, G30, X30⟩
        refine .p rfl rfl (.mv rfl) ?_
        refine .p rfl rfl (.extract rfl rfl) ?_
        refine .p rfl rfl (.extract rfl rfl) ?_
        refine .p rfl rfl (.as rfl) ?_
        refine .p rfl rfl (.as rfl) ?_
        refine .nil (.code (.seq (.seq (.keep [(7, _), (6, _), (5, _), (0, _), (1, _)] ⟨rfl, rfl, rfl, rfl, rfl, trivial⟩ (.region ?_)))))
        refine .p rfl rfl (.mv rfl) ?_
        refine .p rfl rfl (.ne rfl rfl) ?_
        refine .nil (.code (.keep [(34, _), (6, _), (5, _), (0, _), (1, _)] ⟨rfl, rfl, rfl, rfl, rfl, trivial⟩ ?_))
        refine .condD rfl (fun c34 => ?_) (fun c34 => ?_)
        · refine .seq (.keep [(5, _)] ⟨rfl, trivial⟩ (.region ?_))
          refine .p rfl rfl (.mv rfl) ?_
          refine .p rfl rfl (.as rfl) ?_
          refine .nil (.code ?_)
          refine .ret _ rfl ?_
          exact ⟨rfl, (by repeat (first | exact Ext.refl _ | assumption | refine Ext.trans (by assumption) ?_))⟩
        · refine .skip (.code (.seq (.keep [(6, _), (5, _), (0, _), (1, _)] ⟨rfl, rfl, rfl, rfl, trivial⟩ (.region ?_))))
          refine .p rfl rfl (.mv rfl) ?_
          refine .p rfl rfl (.mv rfl) ?_
          refine .call (first := []) (captured := []) rfl rfl rfl rfl (Find_fn (key := key) (Gr.rep G30)) ?_
          rintro _ w39 ⟨rfl, X39⟩
          have he0 : (makeE l).2 = 0 := Decidable.not_not.1 c34
          have hk : ¬ (key = [] ∨ 256 < key.length) := fun h => h.elim (fun e => by have : key.length = 0 := (by rw [e]; rfl); omega) (fun h => by omega)
          generalize hF : findF (makeE l).1 key = F
          obtain ⟨x, is, ef⟩ := F
          refine .p rfl rfl (.mv rfl) ?_
          refine .p rfl rfl (.extract rfl rfl) ?_
          refine .p rfl rfl (.extract rfl rfl) ?_
          refine .p rfl rfl (.extract rfl rfl) ?_
          refine .v rfl rfl (.alloc rfl rfl) ?_
          rintro _ w8 ⟨rfl, N8⟩
          have z8 := N8.size
          refine .s rfl (.storeAll (n := 4) rfl rfl rfl rfl rfl N8.blk rfl) ?_
          intro w9 P8
          have X8 := N8.ext.then P8.ext (by rintro k rfl _; exact Nat.le_refl _)
          have B8 := P8.blk
          refine .p rfl rfl (.as rfl) ?_
          refine .p rfl rfl (.as rfl) ?_
          refine .nil (.code (.seq (.seq (.keep [(10, _), (9, _), (8, _), (5, _), (0, _), (1, _)] ⟨rfl, rfl, rfl, rfl, rfl, rfl, trivial⟩ (.region ?_)))))
          refine .p rfl rfl (.as rfl) ?_
          refine .nil (.code (.block ?_))
          refine .loop (S := Nat) (fun s => [(0, .slice a l.length cap), (1, str key), (5, .bool true), (8, .pointer (some ⟨w39.heap.size, 0, none⟩)), (9, .bool is), (10, i64 ef), (11, i64 s)]) (fun s => w9) (fun s => s ≤ l.length ∧ ∀ j (h : j < l.length), j < s → ¬ l[j].key = key) (fun s => l.length - s) 0 ⟨rfl, rfl, rfl, rfl, rfl, rfl, rfl, trivial⟩ rfl ⟨Nat.zero_le _, fun j _ h => absurd h (Nat.not_lt_zero _)⟩ ?_
          rintro i J ⟨hi', ha⟩ again
          refine .seq (.seq (.region ?_))
          refine .p rfl rfl (.mv rfl) ?_
          refine .p rfl rfl (.mv rfl) ?_
          refine .p rfl rfl (.len rfl rfl) ?_
          refine .p rfl rfl (.lt rfl rfl) ?_
          refine .nil (.code (.keep [(46, _), (0, _), (1, _), (5, _), (8, _), (9, _), (10, _), (11, _)] ⟨rfl, rfl, rfl, rfl, rfl, rfl, rfl, rfl, trivial⟩ ?_))
          refine .condD rfl (fun c46 => ?_) (fun c46 => ?_)
          · have hi : i < l.length := by omega
            obtain ⟨b0, o0, c0, ue, e, _, hcs, hre⟩ := Sl.at h (List.getElem?_eq_getElem hi)
            cases e
            obtain ⟨rfl, h1, h2, h3⟩ := tEntry.val hre
            refine .skip (.code (.seq (.block (.seq (.keep [(0, _), (1, _), (5, _), (8, _), (9, _), (10, _), (11, _)] ⟨rfl, rfl, rfl, rfl, rfl, rfl, rfl, trivial⟩ (.region ?_))))))
            refine .p rfl rfl (.mv rfl) ?_
            refine .p rfl rfl (.mv rfl) ?_
            refine .p rfl rfl (.indexAddr (s := 4) rfl rfl rfl rfl (by omega)) ?_
            refine .p rfl rfl (.fieldAddr rfl rfl rfl rfl) ?_
            refine .p rfl rfl (.load rfl rfl rfl (hcs.ext (S := fun _ => False) (by repeat (first | exact Ext.refl _ | assumption | refine Ext.trans (by assumption) ?_)) (fun x => x) 0 _ rfl)) ?_
            refine .p rfl rfl (.mv rfl) ?_
            refine .p rfl rfl (.eqS rfl rfl) ?_
            refine .nil (.code (.keep [(55, _), (0, _), (1, _), (5, _), (8, _), (9, _), (10, _), (11, _)] ⟨rfl, rfl, rfl, rfl, rfl, rfl, rfl, rfl, trivial⟩ ?_))
            refine .condD rfl (fun c55 => ?_) (fun c55 => ?_)
            · rw [page_found he0 hk hi c55 ha] at hF
              cases hF
              refine .seq (.keep [(0, _), (5, _), (8, _), (9, _), (10, _), (11, _)] ⟨rfl, rfl, rfl, rfl, rfl, rfl, trivial⟩ (.mix (fun _ => False) [] (by kernel_rfl) (by kernel_rfl) (by kernel_rfl) ?_))
              refine .p rfl rfl rfl (fun wx hx => .mv rfl) ?_
              refine .p rfl rfl rfl (fun wx hx => .mv rfl) ?_
              refine .p rfl rfl rfl (fun wx hx => .mv rfl) ?_
              refine .p rfl rfl rfl (fun wx hx => .yes (.eq rfl rfl) (rfl)) ?_
              refine .p rfl rfl rfl (fun wx hx => .pickT rfl rfl) ?_
              refine .p rfl rfl rfl (fun wx hx => .mv rfl) ?_
              refine .p rfl rfl rfl (fun wx hx => .mv rfl) ?_
              refine .p rfl rfl rfl (fun wx hx => .pickT rfl rfl) ?_
              refine .p rfl rfl rfl (fun wx hx => .mv rfl) ?_
              refine .p rfl rfl rfl (fun wx hx => .loadA (n := 4) rfl rfl rfl rfl rfl (B8.ext hx (fun x => x)).cells) ?_
              refine .p rfl rfl rfl (fun wx hx => .mv rfl) ?_
              refine .p rfl rfl rfl (fun wx hx => .mv rfl) ?_
              refine .p rfl rfl rfl (fun wx hx => .indexAddr (s := 4) rfl rfl rfl rfl (by omega)) ?_
              refine .p rfl rfl rfl (fun wx hx => .loadA (n := 4) rfl rfl rfl rfl rfl (hcs.ext (S := fun _ => False) (Ext.trans (by repeat (first | exact Ext.refl _ | assumption | refine Ext.trans (by assumption) ?_)) hx) (fun x => x))) ?_
              refine .p rfl rfl rfl (fun wx hx => .cast (.eqA (xs := [_, _, _, _]) (ys := [_, _, _, _]) rfl rfl (by kernel_rfl) (entry_eq l[i] l[i])) (show Value.bool _ = Value.bool true by rw [decide_eq_true rfl])) ?_
              refine .p rfl rfl rfl (fun wx hx => .pickT rfl rfl) ?_
              refine .p rfl rfl rfl (fun wx hx => .as rfl) ?_
              refine .nil (.code ?_)
              refine .ret _ rfl ?_
              exact ⟨rfl, (by repeat (first | exact Ext.refl _ | assumption | refine Ext.trans (by assumption) ?_))⟩
            · refine .skip (.blk (.code (.keep [(0, _), (1, _), (5, _), (8, _), (9, _), (10, _), (11, _)] ⟨rfl, rfl, rfl, rfl, rfl, rfl, rfl, trivial⟩ (.region ?_))))
              refine .p rfl rfl (.mv rfl) ?_
              refine .p rfl rfl (.add rfl rfl (by omega)) ?_
              refine .p rfl rfl (.as rfl) ?_
              refine .nil ?_
              exact (again (i + 1) ⟨by omega, (fun j hj hlt => by
                rcases Nat.lt_or_ge j i with h2 | h2
                · exact ha j hj h2
                · have : j = i := by omega
                  subst this
                  exact c55)⟩ (by show _ - (i + 1) < _ - i; omega)).of ⟨rfl, rfl, rfl, rfl, rfl, rfl, rfl, trivial⟩
          · rw [page_missed he0 hk (fun j hj => ha j hj (by omega))] at hF
            cases hF
            refine .exit rfl (.code (.seq (.keep [(5, _), (8, _), (9, _), (10, _)] ⟨rfl, rfl, rfl, rfl, trivial⟩ (.region ?_))))
            refine .p rfl rfl (.mv rfl) ?_
            refine .p rfl rfl (.mv rfl) ?_
            refine .p rfl rfl (.mv rfl) ?_
            refine .p rfl rfl (.yes (.eq rfl rfl) (rfl)) ?_
            refine .p rfl rfl (.pickT rfl rfl) ?_
            refine .p rfl rfl (.mv rfl) ?_
            refine .p rfl rfl (.mv rfl) ?_
            refine .p rfl rfl (.not rfl) ?_
            refine .p rfl rfl (.pickT rfl rfl) ?_
            refine .p rfl rfl (.mv rfl) ?_
            refine .p rfl rfl (.loadA (n := 4) rfl rfl rfl rfl rfl B8.cells) ?_
            refine .p rfl rfl (.build (cs := [str zeroE.key, str zeroE.value, i64 zeroE.seq, .bool zeroE.gone]) rfl (fun _ => by kernel_rfl)) ?_
            refine .p rfl rfl (.cast (.eqA (xs := [_, _, _, _]) (ys := [_, _, _, _]) rfl rfl (by kernel_rfl) (entry_eq zeroE zeroE)) (show Value.bool _ = Value.bool true by rw [decide_eq_true rfl])) ?_
            refine .p rfl rfl (.pickT rfl rfl) ?_
            refine .p rfl rfl (.as rfl) ?_
            refine .nil (.code ?_)
            refine .ret _ rfl ?_
            exact ⟨rfl, (by repeat (first | exact Ext.refl _ | assumption | refine Ext.trans (by assumption) ?_))⟩
end Go.Proofs.Ytgolflhoajafhaa
