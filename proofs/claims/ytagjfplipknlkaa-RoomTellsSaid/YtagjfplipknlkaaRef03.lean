
/-
  Package docketref03: the document's own walk, sector by sector.
-/
import Derived.Test.YtagjfplipknlkaaLaw03a
import Derived.Test.YtagjfplipknlkaaRoomRef
set_option linter.unusedVariables false
set_option linter.unusedSimpArgs false
set_option maxRecDepth 20000
namespace Go.Proofs.Ytagjfplipknlkaa
open Go room
namespace room
theorem mark_self {l : List Piece} {p : Piece} (k : Nat) : markB l p (k : Int) k = covB l k := by
  unfold markB
  rw [decide_eq_false (by omega), Bool.or_false]
end room
theorem taken_fn {w : World} {v : Value} {l : List Piece} {n : Nat} (h : (Sl tPiece).rep All w v l) (hn : n ≤ 5000) : Fn Try.prog 28 [i64 (n : Int), v] w (fun r w2 => ∃ v', r = .tuple #[v', .bool (decide (mayP (n : Int) l))] ∧ (mayP (n : Int) l → v' = .slice (some ⟨w.heap.size, 0, none⟩) n n ∧ Blk w2 w.heap.size 4 (rowB n (covB l))) ∧ Ext (fun _ => False) w w2) := by
  obtain ⟨a, cap, rfl, hcap⟩ := Sl.val h
  have hlim := Sl.lim h
  simp only [Lim] at hlim
  refine Fn.enter (fun w => Try.call28 _ w) Try.func28 rfl ?_
  refine .seq (.region ?_)
  refine .p rfl rfl (.as rfl) ?_
  refine .p rfl rfl (.as rfl) ?_
  refine .nil (.code (.seq (.keep [(0, _), (1, _)] ⟨rfl, rfl, trivial⟩ (.region ?_))))
  refine .p rfl rfl (.mv rfl) ?_
  refine .v rfl rfl (.make (eb := 1) rfl rfl rfl rfl rfl rfl rfl rfl (by omega)) ?_
  rintro _ w11 ⟨rfl, N11⟩
  have z11 := N11.size
  have B11 : Blk w11 w.heap.size 4 (rowB n (fun _ => false)) := by rw [← rowB_zero]; exact N11.blk
  have X11 := N11.ext
  refine .p rfl rfl (.as rfl) ?_
  refine .nil (.code (.seq (.seq (.keep [(6, _), (0, _), (1, _)] ⟨rfl, rfl, rfl, trivial⟩ (.region ?_)))))
  refine .p rfl rfl (.as rfl) ?_
  refine .nil (.code (.block ?_))
  refine .loop (S := Nat × World) (fun s => [(0, i64 (n : Int)), (1, .slice a l.length cap), (6, .slice (some ⟨w.heap.size, 0, none⟩) n n), (7, i64 s.1)]) (fun s => s.2) (fun s => s.1 ≤ l.length ∧ Blk s.2 w.heap.size 4 (rowB n (covB (l.take s.1))) ∧ mayP (n : Int) (l.take s.1) ∧ Ext (fun _ => False) w s.2) (fun s => l.length - s.1) (0, w11) ⟨rfl, rfl, rfl, rfl, trivial⟩ rfl ⟨Nat.zero_le _, B11, ⟨fun p hp => (by cases hp), .nil⟩, X11⟩ ?_
  rintro ⟨i, wi⟩ J ⟨hi', Bt, hmay, hX⟩ again
  simp only at hi' Bt hmay hX
  change G _ [(0, i64 (n : Int)), (1, .slice a l.length cap), (6, .slice (some ⟨w.heap.size, 0, none⟩) n n), (7, i64 i)] _ _ wi
  refine .seq (.seq (.region ?_))
  refine .p rfl rfl (.mv rfl) ?_
  refine .p rfl rfl (.mv rfl) ?_
  refine .p rfl rfl (.len rfl rfl) ?_
  refine .p rfl rfl (.lt rfl rfl) ?_
  refine .nil (.code (.keep [(15, _), (0, _), (1, _), (6, _), (7, _)] ⟨rfl, rfl, rfl, rfl, rfl, trivial⟩ ?_))
  refine .condD rfl (fun c15 => ?_) (fun c15 => ?_)
  · have hi : i < l.length := by omega
    obtain ⟨b1, o1, q1, ue, e, _, hcs, hre⟩ := Sl.at ((Sl tPiece).ext0 h hX) (List.getElem?_eq_getElem hi)
    cases e
    obtain ⟨rfl, hr1, hr2⟩ := tPiece.val hre
    refine .skip (.code (.seq (.block (.seq (.keep [(0, _), (1, _), (6, _), (7, _)] ⟨rfl, rfl, rfl, rfl, trivial⟩ (.region ?_))))))
    refine .p rfl rfl (.mv rfl) ?_
    refine .p rfl rfl (.mv rfl) ?_
    refine .p rfl rfl (.indexAddr (s := 2) rfl rfl rfl rfl (by omega)) ?_
    refine .p rfl rfl (.loadA (n := 2) rfl rfl rfl rfl rfl hcs) ?_
    refine .v rfl rfl (.alloc rfl rfl) ?_
    rintro _ w7a ⟨rfl, N7⟩
    refine .s rfl (.storeAll (n := 2) rfl rfl rfl rfl rfl N7.blk rfl) ?_
    intro w7 P7
    have X7 := N7.ext.then P7.ext (by rintro k rfl _; exact Nat.le_refl _)
    have B7 : Blk w7 wi.heap.size 30 [i64 l[i].fr, i64 l[i].ct] := P7.blk
    have Bt7 := Bt.ext X7 (fun x => x)
    have hne : ¬ wi.heap.size = w.heap.size := by have := Bt.lt; omega
    refine .nil (.code (.seq (.seq (.keep [(8, _), (0, _), (1, _), (6, _), (7, _)] ⟨rfl, rfl, rfl, rfl, rfl, trivial⟩ (.region ?_)))))
    refine .p rfl rfl (.fieldAddr rfl rfl rfl rfl) ?_
    refine .p rfl rfl (.load rfl rfl rfl (B7.cell 1)) ?_
    refine .p rfl rfl (.lt rfl rfl) ?_
    refine .p rfl rfl (.mv rfl) ?_
    refine .caseD 25 rfl (fun c25 => ?_) (fun c25 => ?_)
    · refine .skip rfl rfl ?_
      refine .skip rfl rfl ?_
      refine .skip rfl rfl ?_
      refine .p rfl rfl (.pickT rfl rfl) ?_
      refine .p rfl rfl (.mv rfl) ?_
      refine .skip rfl rfl ?_
      refine .skip rfl rfl ?_
      refine .skip rfl rfl ?_
      refine .skip rfl rfl ?_
      refine .p rfl rfl (.pickT rfl rfl) ?_
      refine .p rfl rfl (.mv rfl) ?_
      refine .skip rfl rfl ?_
      refine .skip rfl rfl ?_
      refine .skip rfl rfl ?_
      refine .skip rfl rfl ?_
      refine .skip rfl rfl ?_
      refine .skip rfl rfl ?_
      refine .skip rfl rfl ?_
      refine .p rfl rfl (.pickT rfl rfl) ?_
      refine .nil (.code (.keep [(44, _), (8, _), (0, _), (1, _), (6, _), (7, _)] ⟨rfl, rfl, rfl, rfl, rfl, rfl, trivial⟩ (.condT rfl (.seq (.keep [] trivial (.region ?_))))))
      refine .p rfl rfl (.as rfl) ?_
      refine .p rfl rfl (.as rfl) ?_
      refine .nil (.code ?_)
      refine .ret _ rfl ?_
      have hno : ¬ mayP (n : Int) l := not_may_of (List.getElem_mem hi) (by unfold okP; omega)
      rw [decide_eq_false hno]
      exact ⟨_, rfl, fun hm => absurd hm hno, hX.trans X7⟩
    · refine .p rfl rfl (.fieldAddr rfl rfl rfl rfl) ?_
      refine .p rfl rfl (.load rfl rfl rfl (B7.cell 0)) ?_
      refine .p rfl rfl (.lt rfl rfl) ?_
      refine .p rfl rfl (.pickF rfl rfl) ?_
      refine .p rfl rfl (.mv rfl) ?_
      refine .caseD 30 rfl (fun c30 => ?_) (fun c30 => ?_)
      · refine .skip rfl rfl ?_
        refine .skip rfl rfl ?_
        refine .skip rfl rfl ?_
        refine .skip rfl rfl ?_
        refine .p rfl rfl (.pickT rfl rfl) ?_
        refine .p rfl rfl (.mv rfl) ?_
        refine .skip rfl rfl ?_
        refine .skip rfl rfl ?_
        refine .skip rfl rfl ?_
        refine .skip rfl rfl ?_
        refine .skip rfl rfl ?_
        refine .skip rfl rfl ?_
        refine .skip rfl rfl ?_
        refine .p rfl rfl (.pickT rfl rfl) ?_
        refine .nil (.code (.keep [(44, _), (8, _), (0, _), (1, _), (6, _), (7, _)] ⟨rfl, rfl, rfl, rfl, rfl, rfl, trivial⟩ (.condT rfl (.seq (.keep [] trivial (.region ?_))))))
        refine .p rfl rfl (.as rfl) ?_
        refine .p rfl rfl (.as rfl) ?_
        refine .nil (.code ?_)
        refine .ret _ rfl ?_
        have hno : ¬ mayP (n : Int) l := not_may_of (List.getElem_mem hi) (by unfold okP; omega)
        rw [decide_eq_false hno]
        exact ⟨_, rfl, fun hm => absurd hm hno, hX.trans X7⟩
      · refine .p rfl rfl (.fieldAddr rfl rfl rfl rfl) ?_
        refine .p rfl rfl (.load rfl rfl rfl (B7.cell 0)) ?_
        refine .p rfl rfl (.mv rfl) ?_
        refine .p rfl rfl (.ge rfl rfl) ?_
        refine .p rfl rfl (.pickF rfl rfl) ?_
        refine .p rfl rfl (.mv rfl) ?_
        refine .caseD 36 rfl (fun c36 => ?_) (fun c36 => ?_)
        · refine .skip rfl rfl ?_
          refine .skip rfl rfl ?_
          refine .skip rfl rfl ?_
          refine .skip rfl rfl ?_
          refine .skip rfl rfl ?_
          refine .skip rfl rfl ?_
          refine .skip rfl rfl ?_
          refine .p rfl rfl (.pickT rfl rfl) ?_
          refine .nil (.code (.keep [(44, _), (8, _), (0, _), (1, _), (6, _), (7, _)] ⟨rfl, rfl, rfl, rfl, rfl, rfl, trivial⟩ (.condT rfl (.seq (.keep [] trivial (.region ?_))))))
          refine .p rfl rfl (.as rfl) ?_
          refine .p rfl rfl (.as rfl) ?_
          refine .nil (.code ?_)
          refine .ret _ rfl ?_
          have hno : ¬ mayP (n : Int) l := not_may_of (List.getElem_mem hi) (by unfold okP; omega)
          rw [decide_eq_false hno]
          exact ⟨_, rfl, fun hm => absurd hm hno, hX.trans X7⟩
        · refine .p rfl rfl (.fieldAddr rfl rfl rfl rfl) ?_
          refine .p rfl rfl (.load rfl rfl rfl (B7.cell 1)) ?_
          refine .p rfl rfl (.mv rfl) ?_
          refine .p rfl rfl (.fieldAddr rfl rfl rfl rfl) ?_
          refine .p rfl rfl (.load rfl rfl rfl (B7.cell 0)) ?_
          refine .p rfl rfl (.sub rfl rfl (by omega)) ?_
          refine .p rfl rfl (.gt rfl rfl) ?_
          refine .p rfl rfl (.pickF rfl rfl) ?_
          refine .nil (.code (.keep [(44, _), (8, _), (0, _), (1, _), (6, _), (7, _)] ⟨rfl, rfl, rfl, rfl, rfl, rfl, trivial⟩ ?_))
          refine .condD rfl (fun c44 => ?_) (fun c44 => ?_)
          · refine .seq (.keep [] trivial (.region ?_))
            refine .p rfl rfl (.as rfl) ?_
            refine .p rfl rfl (.as rfl) ?_
            refine .nil (.code ?_)
            refine .ret _ rfl ?_
            have hno : ¬ mayP (n : Int) l := not_may_of (List.getElem_mem hi) (by unfold okP; omega)
            rw [decide_eq_false hno]
            exact ⟨_, rfl, fun hm => absurd hm hno, hX.trans X7⟩
          · have hok : okP (n : Int) l[i] := by unfold okP; omega
            refine .skip (.code (.seq (.keep [(8, _), (0, _), (1, _), (6, _), (7, _)] ⟨rfl, rfl, rfl, rfl, rfl, trivial⟩ (.region ?_))))
            refine .p rfl rfl (.fieldAddr rfl rfl rfl rfl) ?_
            refine .p rfl rfl (.cast (.load rfl rfl rfl (B7.cell 0)) (show _ = i64 ((l[i].fr.toNat : Nat) : Int) by rw [Int.toNat_of_nonneg (by omega)])) ?_
            refine .p rfl rfl (.as rfl) ?_
            refine .nil (.code (.block (.keep [(9, _), (8, _), (0, _), (1, _), (6, _), (7, _)] ⟨rfl, rfl, rfl, rfl, rfl, rfl, trivial⟩ ?_)))
            unfold okP at hok
            refine .loop (S := Nat × World) (fun s => [(0, i64 (n : Int)), (1, .slice (some ⟨b1, o1, none⟩) l.length cap), (6, .slice (some ⟨w.heap.size, 0, none⟩) n n), (7, i64 (i : Nat)), (8, .pointer (some ⟨wi.heap.size, 0, none⟩)), (9, i64 s.1)]) (fun s => s.2) (fun s => l[i].fr ≤ (s.1 : Int) ∧ (s.1 : Int) ≤ l[i].fr + l[i].ct ∧ Blk s.2 w.heap.size 4 (rowB n (markB (l.take i) l[i] (s.1 : Int))) ∧ (∀ x : Nat, l[i].fr ≤ (x : Int) → (x : Int) < (s.1 : Int) → covB (l.take i) x = false) ∧ Ext (· = w.heap.size) w7 s.2) (fun s => (l[i].fr + l[i].ct).toNat - s.1) (l[i].fr.toNat, w7) ⟨rfl, rfl, rfl, rfl, rfl, rfl, trivial⟩ rfl ⟨by show l[i].fr ≤ ((l[i].fr.toNat : Nat) : Int); omega, by show ((l[i].fr.toNat : Nat) : Int) ≤ _; omega, by rw [show rowB n (markB (l.take i) l[i] ((l[i].fr.toNat : Nat) : Int)) = rowB n (covB (l.take i)) from rowB_congr (fun x _ => by rw [Int.toNat_of_nonneg (by omega), mark_none])]; exact Bt7, fun x h1 h2 => by have h2 : (x : Int) < ((l[i].fr.toNat : Nat) : Int) := h2; omega, .refl _⟩ ?_
            rintro ⟨k, wj⟩ J2 ⟨hk1, hk2, Bk, hun, hY⟩ again2
            simp only at hk1 hk2 Bk hun hY
            change G _ [(0, i64 (n : Int)), (1, .slice (some ⟨b1, o1, none⟩) l.length cap), (6, .slice (some ⟨w.heap.size, 0, none⟩) n n), (7, i64 (i : Nat)), (8, .pointer (some ⟨wi.heap.size, 0, none⟩)), (9, i64 k)] _ _ wj
            refine .seq (.seq (.region ?_))
            refine .p rfl rfl (.mv rfl) ?_
            refine .p rfl rfl (.fieldAddr rfl rfl rfl rfl) ?_
            refine .p rfl rfl (.load rfl rfl rfl ((B7.ext hY hne).cell 0)) ?_
            refine .p rfl rfl (.fieldAddr rfl rfl rfl rfl) ?_
            refine .p rfl rfl (.load rfl rfl rfl ((B7.ext hY hne).cell 1)) ?_
            refine .p rfl rfl (.add rfl rfl (by omega)) ?_
            refine .p rfl rfl (.lt rfl rfl) ?_
            refine .nil (.code (.keep [(53, _), (0, _), (1, _), (6, _), (7, _), (8, _), (9, _)] ⟨rfl, rfl, rfl, rfl, rfl, rfl, rfl, trivial⟩ ?_))
            refine .condD rfl (fun c53 => ?_) (fun c53 => ?_)
            · have hkn : k < n := by omega
              refine .skip (.code (.seq (.block (.seq (.seq (.keep [(0, _), (1, _), (6, _), (7, _), (8, _), (9, _)] ⟨rfl, rfl, rfl, rfl, rfl, rfl, trivial⟩ (.region ?_)))))))
              refine .p rfl rfl (.mv rfl) ?_
              refine .p rfl rfl (.mv rfl) ?_
              refine .p rfl rfl (.indexAddr1 rfl rfl rfl rfl (by omega)) ?_
              refine .p rfl rfl (.cast (.load rfl rfl rfl (by rw [Int.toNat_natCast, Nat.zero_add]; exact (Bk.cell _).trans (rowB_get _ hkn))) (show _ = Value.bool (covB (l.take i) k) by rw [mark_self])) ?_
              refine .nil (.code (.keep [(59, _), (0, _), (1, _), (6, _), (7, _), (8, _), (9, _)] ⟨rfl, rfl, rfl, rfl, rfl, rfl, rfl, trivial⟩ ?_))
              refine .cond rfl (fun c59 => ?_) (fun c59 => ?_)
              · have hno : ¬ mayP (n : Int) l := not_may_at hi c59 ⟨hk1, by omega⟩
                refine .seq (.keep [] trivial (.region ?_))
                refine .p rfl rfl (.as rfl) ?_
                refine .p rfl rfl (.as rfl) ?_
                refine .nil (.code ?_)
                refine .ret _ rfl ?_
                rw [decide_eq_false hno]
                exact ⟨_, rfl, fun hm => absurd hm hno, (hX.trans X7).then hY (fun k he _ => by have he : k = w.heap.size := he; omega)⟩
              · refine .skip (.code (.keep [(0, _), (1, _), (6, _), (7, _), (8, _), (9, _)] ⟨rfl, rfl, rfl, rfl, rfl, rfl, trivial⟩ (.region ?_)))
                refine .p rfl rfl (.mv rfl) ?_
                refine .p rfl rfl (.mv rfl) ?_
                refine .p rfl rfl (.indexAddr1 rfl rfl rfl rfl (by omega)) ?_
                refine .s rfl (.store rfl rfl rfl rfl rfl Bk (by rw [Int.toNat_natCast, Nat.zero_add, rowB_len]; exact hkn)) ?_
                intro w8 P8
                have B8 := P8.blk
                rw [Int.toNat_natCast, Nat.zero_add, mark_step hk1 hkn] at B8
                refine .nil (.blk (.code (.keep [(0, _), (1, _), (6, _), (7, _), (8, _), (9, _)] ⟨rfl, rfl, rfl, rfl, rfl, rfl, trivial⟩ (.region ?_))))
                refine .p rfl rfl (.mv rfl) ?_
                refine .p rfl rfl (.add rfl rfl (by omega)) ?_
                refine .p rfl rfl (.as rfl) ?_
                refine .nil ?_
                refine (again2 (k + 1, w8) ⟨by show l[i].fr ≤ ((k + 1 : Nat) : Int); omega, by show ((k + 1 : Nat) : Int) ≤ _; omega, B8, fun x h1 h2 => ?_, hY.trans P8.ext⟩ (by show _ - (k + 1) < _ - k; omega)).of ⟨rfl, rfl, rfl, rfl, rfl, rfl, trivial⟩
                have h2 : (x : Int) < ((k + 1 : Nat) : Int) := h2
                by_cases hxk : x = k
                · subst hxk; exact c59
                · exact hun x h1 (by omega)
            · refine .exit rfl (.blk (.code (.keep [(0, _), (1, _), (6, _), (7, _)] ⟨rfl, rfl, rfl, rfl, trivial⟩ (.region ?_))))
              refine .p rfl rfl (.mv rfl) ?_
              refine .p rfl rfl (.add rfl rfl (by omega)) ?_
              refine .p rfl rfl (.as rfl) ?_
              refine .nil ?_
              refine (again (i + 1, wj) ⟨by show i + 1 ≤ _; omega, ?_, may_more hi hmay hok (fun x h1 h2 => hun x h1 (by omega)), (hX.trans X7).then hY (fun k he _ => by have he : k = w.heap.size := he; omega)⟩ (by show _ - (i + 1) < _ - i; omega)).of ⟨rfl, rfl, rfl, rfl, trivial⟩
              rw [show rowB n (covB (l.take (i + 1))) = rowB n (markB (l.take i) l[i] (k : Int)) from rowB_congr (fun x _ => by rw [cov_more hi, show l[i].fr + l[i].ct = (k : Int) by omega])]
              exact Bk
  · obtain rfl : i = l.length := by omega
    rw [List.take_length] at Bt hmay
    refine .exit rfl (.code (.seq (.keep [(6, _)] ⟨rfl, trivial⟩ (.region ?_))))
    refine .p rfl rfl (.mv rfl) ?_
    refine .p rfl rfl (.as rfl) ?_
    refine .p rfl rfl (.as rfl) ?_
    refine .nil (.code ?_)
    refine .ret _ rfl ?_
    rw [decide_eq_true hmay]
    exact ⟨_, rfl, fun _ => ⟨rfl, Bt⟩, hX⟩
theorem RefCheck_fn {w : World} {v : Value} {l : List Piece} {count : Int} (h : (Sl tPiece).rep All w v l) : Fn Try.prog 24 [i64 count, v] w (fun r w2 => r = i64 (checkR count l) ∧ Ext (fun _ => False) w w2) := by
  obtain ⟨a, cap, rfl, hcap⟩ := Sl.val h
  refine Fn.enter (fun w => Try.call24 _ w) Try.func24 rfl ?_
  refine .seq (.region ?_)
  refine .p rfl rfl (.as rfl) ?_
  refine .nil (.code (.seq (.seq (.keep [(0, _), (1, _)] ⟨rfl, rfl, trivial⟩ (.region ?_)))))
  refine .p rfl rfl (.mv rfl) ?_
  refine .p rfl rfl (.lt rfl rfl) ?_
  refine .p rfl rfl (.mv rfl) ?_
  refine .caseD 9 rfl (fun c9 => ?_) (fun c9 => ?_)
  · refine .skip rfl rfl ?_
    refine .skip rfl rfl ?_
    refine .p rfl rfl (.pickT rfl rfl) ?_
    refine .nil (.code (.keep [(12, _), (0, _), (1, _)] ⟨rfl, rfl, rfl, trivial⟩ (.condT rfl (.seq (.keep [] trivial (.region ?_))))))
    refine .p rfl rfl (.as rfl) ?_
    refine .nil (.code ?_)
    refine .ret _ rfl ?_
    have e : checkR count l = 2 := by unfold checkR; rw [if_pos (by omega)]
    rw [e]
    exact ⟨rfl, .refl _⟩
  · refine .p rfl rfl (.mv rfl) ?_
    refine .p rfl rfl (.gt rfl rfl) ?_
    refine .p rfl rfl (.pickF rfl rfl) ?_
    refine .nil (.code (.keep [(12, _), (0, _), (1, _)] ⟨rfl, rfl, rfl, trivial⟩ ?_))
    refine .condD rfl (fun c12 => ?_) (fun c12 => ?_)
    · refine .seq (.keep [] trivial (.region ?_))
      refine .p rfl rfl (.as rfl) ?_
      refine .nil (.code ?_)
      refine .ret _ rfl ?_
      have e : checkR count l = 2 := by unfold checkR; rw [if_pos (by omega)]
      rw [e]
      exact ⟨rfl, .refl _⟩
    · refine .skip (.code (.seq (.seq (.keep [(0, _), (1, _)] ⟨rfl, rfl, trivial⟩ (.region ?_)))))
      refine .p rfl rfl (.mv rfl) ?_
      refine .p rfl rfl (.len rfl rfl) ?_
      refine .p rfl rfl (.gt rfl rfl) ?_
      refine .nil (.code (.keep [(15, _), (0, _), (1, _)] ⟨rfl, rfl, rfl, trivial⟩ ?_))
      refine .condD rfl (fun c15 => ?_) (fun c15 => ?_)
      · refine .seq (.keep [] trivial (.region ?_))
        refine .p rfl rfl (.as rfl) ?_
        refine .nil (.code ?_)
        refine .ret _ rfl ?_
        have e : checkR count l = 4 := by unfold checkR; rw [if_neg (by omega), if_pos (by omega)]
        rw [e]
        exact ⟨rfl, .refl _⟩
      · refine .skip (.code (.seq (.keep [(0, _), (1, _)] ⟨rfl, rfl, trivial⟩ (.region ?_))))
        refine .p rfl rfl (.mv rfl) ?_
        refine .p rfl rfl (.mv rfl) ?_
        obtain ⟨n0, rfl⟩ := Int.eq_ofNat_of_zero_le (show 0 ≤ count by omega)
        refine .call (first := []) (captured := []) rfl rfl rfl rfl (taken_fn (n := n0) h (by omega)) ?_
        rintro _ w19 ⟨v19, rfl, hB19, X19⟩
        refine .p rfl rfl (.mv rfl) ?_
        refine .p rfl rfl (.extract rfl rfl) ?_
        refine .p rfl rfl (.extract rfl rfl) ?_
        refine .p rfl rfl (.as rfl) ?_
        refine .p rfl rfl (.as rfl) ?_
        refine .nil (.code (.seq (.seq (.keep [(6, _)] ⟨rfl, trivial⟩ (.region ?_)))))
        refine .p rfl rfl (.mv rfl) ?_
        refine .p rfl rfl (.notD rfl) ?_
        refine .nil (.code (.keep [(23, _)] ⟨rfl, trivial⟩ ?_))
        refine .condD rfl (fun c23 => ?_) (fun c23 => ?_)
        · refine .seq (.keep [] trivial (.region ?_))
          refine .p rfl rfl (.as rfl) ?_
          refine .nil (.code ?_)
          refine .ret _ rfl ?_
          rw [check_8 (by omega) (by omega) (by simpa using c23)]
          exact ⟨rfl, X19⟩
        · refine .skip (.code (.seq (.keep [] trivial (.region ?_))))
          refine .p rfl rfl (.as rfl) ?_
          refine .nil (.code ?_)
          refine .ret _ rfl ?_
          rw [check_0 (by omega) (by omega) (by simpa using c23)]
          exact ⟨rfl, X19⟩
end Go.Proofs.Ytagjfplipknlkaa
