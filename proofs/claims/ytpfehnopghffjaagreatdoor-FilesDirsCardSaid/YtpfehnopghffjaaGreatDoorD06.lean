import Derived.Test.YtpfehnopghffjaaGreatDoorD04
import Derived.Test.YtpfehnopghffjaaGreatDoorD05
import Derived.Test.YtpfehnopghffjaaGreatDoorD03
import Derived.Lib.AppendZerosOnto
set_option linter.unusedVariables false
set_option linter.unusedSimpArgs false
set_option maxRecDepth 20000
namespace Go.Proofs.YtpfehnopghffjaaGreatDoor
open Go
namespace files
open room
theorem sumF_eq : ∀ l : List Piece, totalF l = (l.map (·.ct)).sum
  | [] => rfl
  | p :: l => by show p.ct + totalF l = _; rw [sumF_eq l]; rfl
theorem manyF_eq (l : List Piece) : manyF l = if checkR 4096 l = 0 then totalF l else 0 := by unfold manyF; rw [sumF_eq]
theorem allP_split (l : List File) (i : Nat) : allP l = (l.take i).flatMap (·.ps) ++ (l.drop i).flatMap (·.ps) := by unfold allP; rw [← List.flatMap_append, List.take_append_drop]
theorem allP_le (l : List File) (i : Nat) : ((l.take i).flatMap (·.ps)).length ≤ (allP l).length := by
  have := congrArg List.length (allP_split l i)
  rw [List.length_append] at this
  omega
theorem allP_step {l : List File} {i : Nat} (h : i < l.length) : ((l.take i).flatMap (·.ps)).length + l[i].ps.length ≤ (allP l).length := by
  have h1 := allP_le l (i + 1)
  rw [files_step h, List.length_append] at h1
  exact h1
theorem bad_at {x : Dir} {i : Nat} (hl : ¬ 32 < x.fs.length) (hi : i < x.fs.length) (h : ¬ okAt x.fs i hi) : checkD x = 8 := checkD_8 hl (fun hm => h (hm.2.2.2 i hi))
end files
theorem Ev.geS {P : Program} {e : Env} {w : World} {x y : Operand} {T T' : TypeId} {a b : Bs} (hx : look e x = some (str a)) (hy : look e y = some (str b)) : Ev P e (.binOp .geq T x y T') w (.bool (!Op.bytesLess a b)) :=
  fun w' _ ρ hρ o ho => by
    have h1 : (bs a).toList = a := bs_toList a
    have h2 : (bs b).toList = b := bs_toList b
    simp [execOp, ho, hρ _ _ hx, hρ _ _ hy, eqGuard, binOp, Op.stringOp, h1, h2]
open room files
attribute [local irreducible] checkR nameF
theorem pieces_fn {w : World} {v : Value} {x : Dir} (h : tDir.rep All w v x) (hp : (allP x.fs).length ≤ 1000000) : Fn Tryz.prog 74 [v] w (fun r w2 => OwnO tPiece (fun _ => False) 40 w2 r (allP x.fs) (fun k => w.heap.size ≤ k) ∧ Ext (fun _ => False) w w2) := by
  obtain ⟨a, cap, rfl, hf, hg⟩ := tDir.val h
  have hlim := Sl.lim hf
  simp only [Lim] at hlim
  refine Fn.enter (fun w => Tryz.call74 _ w) Tryz.func74 rfl ?_
  refine .seq (.region ?_)
  refine .v rfl rfl (.box rfl) ?_
  rintro _ w1 ⟨rfl, N1⟩
  refine .p rfl rfl (.as rfl) ?_
  refine .nil (.code (.seq (.keep [(1, _)] ⟨rfl, trivial⟩ (.region ?_))))
  refine .p rfl rfl (.as rfl) ?_
  refine .nil (.code (.seq (.seq (.region ?_))))
  refine .p rfl rfl (.fieldAddr rfl rfl rfl rfl) ?_
  refine .p rfl rfl (.load rfl rfl rfl (N1.blk.cell 1)) ?_
  refine .p rfl rfl (.len rfl rfl) ?_
  refine .p rfl rfl (.mv rfl) ?_
  refine .nil (.code (.block (.keep [(9, _), (8, _), (7, _), (3, _)] ⟨rfl, rfl, rfl, rfl, trivial⟩ ?_)))
  refine .loop (S := Nat × List Piece × Value × World) (fun s => [(3, s.2.2.1), (7, .slice a x.fs.length cap), (8, i64 x.fs.length), (9, i64 s.1)]) (fun s => s.2.2.2) (fun s => s.1 ≤ x.fs.length ∧ s.2.1 = (x.fs.take s.1).flatMap (·.ps) ∧ OwnO tPiece (fun _ => False) 40 s.2.2.2 s.2.2.1 s.2.1 (fun k => w.heap.size ≤ k) ∧ Ext (fun _ => False) w s.2.2.2) (fun s => x.fs.length - s.1) (0, [], .slice none 0 0, w1) ⟨rfl, rfl, rfl, rfl, trivial⟩ rfl ⟨Nat.zero_le _, rfl, OwnO.nil, N1.ext⟩ ?_
  rintro ⟨i, acc, vi, wi⟩ J ⟨hi', ha, hO, hX⟩ again
  simp only at hi' ha hO hX
  have zi := hX.size
  change G _ [(3, vi), (7, .slice a x.fs.length cap), (8, i64 x.fs.length), (9, i64 i)] _ _ wi
  refine .seq (.region ?_)
  refine .p rfl rfl (.lt rfl rfl) ?_
  refine .nil (.code (.seq ?_))
  refine .condD rfl (fun c10 => ?_) (fun c10 => ?_)
  · have hi : i < x.fs.length := by omega
    obtain ⟨b1, o1, q1, ue1, e1, _, hcs1, hre1⟩ := Sl.at hf (List.getElem?_eq_getElem hi)
    cases e1
    obtain ⟨fa1, fc1, rfl, hps1, hnm1, hsz1⟩ := tFile.val hre1
    have hst := allP_step hi
    rw [← ha] at hst
    refine .skip (.code (.seq (.block (.seq (.keep [(3, _), (7, _), (8, _), (9, _)] ⟨rfl, rfl, rfl, rfl, trivial⟩ (.region ?_))))))
    refine .p rfl rfl (.indexAddr (s := 3) rfl rfl rfl rfl (by omega)) ?_
    refine .p rfl rfl (.loadA (n := 3) rfl rfl rfl rfl rfl (hcs1.ext hX (fun x => x))) ?_
    refine .v rfl rfl (.alloc rfl rfl) ?_
    rintro _ w5 ⟨rfl, N5⟩
    refine .s rfl (.storeAll (n := 3) rfl rfl rfl rfl rfl N5.blk rfl) ?_
    intro w4 P4
    have X4 := hX.trans (N5.ext.then P4.ext (by rintro k rfl _; exact Nat.le_refl _))
    have z4 := X4.size
    have y4 := (N5.ext.then P4.ext (by rintro k rfl _; exact Nat.le_refl _))
    have B4 := P4.blk
    refine .nil (.code (.keep [(5, _), (3, _), (7, _), (8, _), (9, _)] ⟨rfl, rfl, rfl, rfl, rfl, trivial⟩ (.region ?_)))
    refine .p rfl rfl (.mv rfl) ?_
    refine .p rfl rfl (.fieldAddr rfl rfl rfl rfl) ?_
    refine .p rfl rfl (.load rfl rfl rfl (B4.cell 2)) ?_
    refine .v rfl rfl (.appendLo (t := tPiece) (eb := 16) rfl (OwnO.ext0 hO y4) (fun k hk => by omega) rfl (Sl.holds ((Sl tPiece).ext0 hps1 X4) (fun _ _ h => h)) rfl rfl rfl rfl rfl rfl rfl (by omega) (by simp only [Lim]; omega) (fun _ h _ => h.elim)) ?_
    rintro v16 w16 ⟨O16, X16⟩
    have Z16 : Ext (fun _ => False) w w16 := X4.then X16 (fun k hk _ => hk)
    refine .p rfl rfl (.as rfl) ?_
    refine .nil (.blk (.code (.keep [(3, _), (7, _), (8, _), (9, _)] ⟨rfl, rfl, rfl, rfl, trivial⟩ (.region ?_))))
    refine .p rfl rfl (.add rfl rfl (by omega)) ?_
    refine .p rfl rfl (.mv rfl) ?_
    refine .nil ?_
    exact (again (i + 1, acc ++ x.fs[i].ps, v16, w16) ⟨by show i + 1 ≤ _; omega, by show acc ++ x.fs[i].ps = _; rw [files_step hi, ha], O16, Z16⟩ (by show _ - (i + 1) < _ - i; omega)).of ⟨rfl, rfl, rfl, rfl, trivial⟩
  · obtain rfl : i = x.fs.length := by omega
    rw [List.take_length] at ha
    refine .exit rfl (.code (.seq (.keep [(3, _)] ⟨rfl, trivial⟩ (.region ?_))))
    refine .p rfl rfl (.mv rfl) ?_
    refine .p rfl rfl (.as rfl) ?_
    refine .nil (.code ?_)
    refine .ret _ rfl ?_
    rw [ha] at hO
    exact ⟨hO, hX⟩
theorem check1_fn {w : World} {p : Piece} : Fn Tryz.prog 113 [.agg #[i64 p.fr, i64 p.ct]] w (fun r w2 => r = .bool (decide (p.fr < 80)) ∧ Ext (fun _ => False) w w2) := by
  refine Fn.enter (fun w => Tryz.call113 _ w) Tryz.func113 rfl ?_
  refine .seq (.region ?_)
  refine .v rfl rfl (.box rfl) ?_
  rintro _ w1 ⟨rfl, N1⟩
  refine .p rfl rfl (.as rfl) ?_
  refine .nil (.code (.seq (.keep [(1, _)] ⟨rfl, trivial⟩ (.region ?_))))
  refine .p rfl rfl (.fieldAddr rfl rfl rfl rfl) ?_
  refine .p rfl rfl (.load rfl rfl rfl (N1.blk.cell 0)) ?_
  refine .p rfl rfl (.lt rfl rfl) ?_
  refine .p rfl rfl (.as rfl) ?_
  refine .nil (.code ?_)
  refine .ret _ rfl ?_
  exact ⟨rfl, N1.ext⟩
theorem IndexLow_fn {w : World} {v : Value} {l : List Piece} (h : (Sl tPiece).rep All w v l) : Fn Tryz.prog 141 [v, .func (.func 113) #[] #[]] w (fun r w2 => ∃ n : Int, r = i64 n ∧ (0 ≤ n ↔ ∃ p ∈ l, p.fr < 80) ∧ Ext (fun _ => False) w w2) := by
  obtain ⟨a, cap, rfl, hcap⟩ := Sl.val h
  have hlim := Sl.lim h
  simp only [Lim] at hlim
  refine Fn.enter (fun w => Tryz.call141 _ w) Tryz.func141 rfl ?_
  refine .seq (.region ?_)
  refine .p rfl rfl (.as rfl) ?_
  refine .nil (.code (.seq (.seq (.keep [(0, _), (1, _)] ⟨rfl, rfl, trivial⟩ (.region ?_)))))
  refine .p rfl rfl (.mv rfl) ?_
  refine .p rfl rfl (.len rfl rfl) ?_
  refine .p rfl rfl (.mv rfl) ?_
  refine .nil (.code (.block (.keep [(8, _), (7, _), (0, _), (1, _)] ⟨rfl, rfl, rfl, rfl, trivial⟩ ?_)))
  refine .loop (S := Nat × World) (fun s => [(0, .slice a l.length cap), (1, .func (.func 113) #[] #[]), (7, i64 l.length), (8, i64 s.1)]) (fun s => s.2) (fun s => s.1 ≤ l.length ∧ (∀ j (h : j < l.length), j < s.1 → ¬ l[j].fr < 80) ∧ Ext (fun _ => False) w s.2) (fun s => l.length - s.1) (0, w) ⟨rfl, rfl, rfl, rfl, trivial⟩ rfl ⟨Nat.zero_le _, fun j _ h => absurd h (Nat.not_lt_zero _), .refl _⟩ ?_
  rintro ⟨i, wi⟩ J ⟨hi', hn, hX⟩ again
  simp only at hi' hn hX
  change G _ [(0, .slice a l.length cap), (1, .func (.func 113) #[] #[]), (7, i64 l.length), (8, i64 i)] _ _ wi
  refine .seq (.region ?_)
  refine .p rfl rfl (.lt rfl rfl) ?_
  refine .nil (.code (.seq ?_))
  refine .condD rfl (fun c9 => ?_) (fun c9 => ?_)
  · have hi : i < l.length := by omega
    obtain ⟨b1, o1, q1, ue, e, _, hcs, hre⟩ := Sl.at h (List.getElem?_eq_getElem hi)
    cases e
    obtain ⟨rfl, hr1, hr2⟩ := tPiece.val hre
    refine .skip (.code (.seq (.block (.seq (.keep [(0, _), (1, _), (7, _), (8, _)] ⟨rfl, rfl, rfl, rfl, trivial⟩ (.region ?_))))))
    refine .p rfl rfl (.mv rfl) ?_
    refine .p rfl rfl (.as rfl) ?_
    refine .nil (.code (.seq (.keep [(5, _), (0, _), (1, _), (7, _), (8, _)] ⟨rfl, rfl, rfl, rfl, rfl, trivial⟩ (.region ?_))))
    refine .p rfl rfl (.mv rfl) ?_
    refine .p rfl rfl (.mv rfl) ?_
    refine .p rfl rfl (.mv rfl) ?_
    refine .p rfl rfl (.indexAddr (s := 2) rfl rfl rfl rfl (by omega)) ?_
    refine .p rfl rfl (.loadA (n := 2) rfl rfl rfl rfl rfl (hcs.ext hX (fun x => x))) ?_
    refine .call (first := []) (captured := []) rfl rfl rfl rfl (check1_fn (p := l[i])) ?_
    rintro _ w16 ⟨rfl, X16⟩
    refine .nil (.code (.keep [(16, _), (5, _), (0, _), (1, _), (7, _), (8, _)] ⟨rfl, rfl, rfl, rfl, rfl, rfl, trivial⟩ ?_))
    refine .condD rfl (fun c16 => ?_) (fun c16 => ?_)
    · refine .seq (.keep [(5, _)] ⟨rfl, trivial⟩ (.region ?_))
      refine .p rfl rfl (.mv rfl) ?_
      refine .p rfl rfl (.as rfl) ?_
      refine .nil (.code ?_)
      refine .ret _ rfl ?_
      exact ⟨_, rfl, ⟨fun _ => ⟨l[i], List.getElem_mem hi, c16⟩, fun _ => by omega⟩, hX.trans X16⟩
    · refine .skip (.blk (.code (.keep [(0, _), (1, _), (7, _), (8, _)] ⟨rfl, rfl, rfl, rfl, trivial⟩ (.region ?_))))
      refine .p rfl rfl (.add rfl rfl (by omega)) ?_
      refine .p rfl rfl (.mv rfl) ?_
      refine .nil ?_
      refine (again (i + 1, w16) ⟨by show i + 1 ≤ _; omega, fun j hj h1 => ?_, hX.trans X16⟩ (by show _ - (i + 1) < _ - i; omega)).of ⟨rfl, rfl, rfl, rfl, trivial⟩
      rcases Nat.lt_or_ge j i with h2 | h2
      · exact hn j hj h2
      · have h1 : j < i + 1 := h1
        obtain rfl : j = i := by omega
        exact c16
  · obtain rfl : i = l.length := by omega
    refine .exit rfl (.code (.seq (.keep [] trivial (.region ?_))))
    refine .p rfl rfl (.as rfl) ?_
    refine .nil (.code ?_)
    refine .ret _ rfl ?_
    refine ⟨_, rfl, ⟨fun h => absurd h (by decide), fun ⟨p, hp, h1⟩ => ?_⟩, hX⟩
    obtain ⟨j, hj, rfl⟩ := List.getElem_of_mem hp
    exact absurd h1 (hn j hj hj)
theorem ContainsLow_fn {w : World} {v : Value} {l : List Piece} (h : (Sl tPiece).rep All w v l) : Fn Tryz.prog 112 [v, .func (.func 113) #[] #[]] w (fun r w2 => (∃ t : Bool, r = .bool t ∧ (t = true ↔ ∃ p ∈ l, p.fr < 80)) ∧ Ext (fun _ => False) w w2) := by
  refine Fn.enter (fun w => Tryz.call112 _ w) Tryz.func112 rfl ?_
  refine .seq (.region ?_)
  refine .p rfl rfl (.as rfl) ?_
  refine .nil (.code (.seq (.keep [(0, _), (1, _)] ⟨rfl, rfl, trivial⟩ (.region ?_))))
  refine .p rfl rfl (.mv rfl) ?_
  refine .p rfl rfl (.mv rfl) ?_
  refine .call (first := []) (captured := []) rfl rfl rfl rfl (IndexLow_fn h) ?_
  rintro _ w7 ⟨n, rfl, hn, X7⟩
  refine .p rfl rfl (.ge rfl rfl) ?_
  refine .p rfl rfl (.as rfl) ?_
  refine .nil (.code ?_)
  refine .ret _ rfl ?_
  exact ⟨⟨_, rfl, by rw [decide_eq_true_iff]; exact hn⟩, X7⟩
theorem check_fn {w : World} {v : Value} {x : Dir} (h : tDir.rep All w v x) (hp : (allP x.fs).length ≤ 1000000) : Fn Tryz.prog 45 [v] w (fun r w2 => ErrV w.heap.size w2 r (checkD x) ∧ Ext (fun _ => False) w w2) := by
  obtain ⟨a, cap, rfl, hf, hg⟩ := tDir.val h
  have hlim := Sl.lim hf
  simp only [Lim] at hlim
  refine Fn.enter (fun w => Tryz.call45 _ w) Tryz.func45 rfl ?_
  refine .seq (.region ?_)
  refine .v rfl rfl (.box rfl) ?_
  rintro _ w1 ⟨rfl, N1⟩
  refine .p rfl rfl (.as rfl) ?_
  refine .nil (.code (.seq (.seq (.keep [(1, _)] ⟨rfl, trivial⟩ (.region ?_)))))
  refine .p rfl rfl (.fieldAddr rfl rfl rfl rfl) ?_
  refine .p rfl rfl (.load rfl rfl rfl (N1.blk.cell 1)) ?_
  refine .p rfl rfl (.len rfl rfl) ?_
  refine .p rfl rfl (.gt rfl rfl) ?_
  refine .nil (.code (.keep [(11, _), (1, _)] ⟨rfl, rfl, trivial⟩ ?_))
  refine .condD rfl (fun c11 => ?_) (fun c11 => ?_)
  · refine .seq (.keep [] trivial (.region ?_))
    refine .call (first := []) (captured := []) rfl rfl rfl rfl (fail_fn (e := 42) (by decide)) ?_
    rintro r12 w12 ⟨G12, X12⟩
    refine .p rfl rfl (.as rfl) ?_
    refine .nil (.code ?_)
    refine .ret _ rfl ?_
    rw [checkD_42 (by omega)]
    exact ⟨G12.low N1.ext.size, N1.ext.trans X12⟩
  · have hl : ¬ 32 < x.fs.length := by omega
    refine .skip (.code (.seq (.keep [(1, _)] ⟨rfl, trivial⟩ (.region ?_))))
    refine .p rfl rfl (.loadA (n := 2) rfl rfl rfl rfl rfl N1.blk.cells) ?_
    refine .call (first := []) (captured := []) rfl rfl rfl rfl (pieces_fn (tDir.ext0 h N1.ext) hp) ?_
    rintro r14 w14 ⟨O14, X14⟩
    have B14 := N1.blk.ext X14 (fun x => x)
    have R14 := OwnO.rep O14 (R := All) (fun _ _ _ => trivial) (fun _ h _ => h.elim)
    refine .p rfl rfl (.as rfl) ?_
    refine .nil (.code (.seq (.seq (.keep [(3, _), (1, _)] ⟨rfl, rfl, trivial⟩ (.region ?_)))))
    refine .p rfl rfl (.fieldAddr rfl rfl rfl rfl) ?_
    refine .p rfl rfl (.load rfl rfl rfl (B14.cell 0)) ?_
    refine .p rfl rfl (.lt rfl rfl) ?_
    refine .p rfl rfl (.mv rfl) ?_
    refine .caseD 18 rfl (fun c18 => ?_) (fun c18 => ?_)
    · refine .skip rfl rfl ?_
      refine .skip rfl rfl ?_
      refine .skip rfl rfl ?_
      refine .p rfl rfl (.pickT rfl rfl) ?_
      refine .p rfl rfl (.mv rfl) ?_
      refine .skip rfl rfl ?_
      refine .skip rfl rfl ?_
      refine .skip rfl rfl ?_
      refine .p rfl rfl (.pickT rfl rfl) ?_
      refine .nil (.code (.keep [(27, _), (3, _), (1, _)] ⟨rfl, rfl, rfl, trivial⟩ (.condT rfl (.seq (.keep [] trivial (.region ?_))))))
      refine .call (first := []) (captured := []) rfl rfl rfl rfl (fail_fn (e := 8) (by decide)) ?_
      rintro r28 w28 ⟨G28, X28⟩
      refine .p rfl rfl (.as rfl) ?_
      refine .nil (.code ?_)
      refine .ret _ rfl ?_
      rw [checkD_8 hl (fun hm => by have := hm.1.1; omega)]
      exact ⟨G28.low (N1.ext.trans X14).size, N1.ext.trans (X14.trans X28)⟩
    · refine .p rfl rfl (.fieldAddr rfl rfl rfl rfl) ?_
      refine .p rfl rfl (.load rfl rfl rfl (B14.cell 0)) ?_
      refine .p rfl rfl (.ge rfl rfl) ?_
      refine .p rfl rfl (.pickF rfl rfl) ?_
      refine .p rfl rfl (.mv rfl) ?_
      refine .caseD 23 rfl (fun c23 => ?_) (fun c23 => ?_)
      · refine .skip rfl rfl ?_
        refine .skip rfl rfl ?_
        refine .skip rfl rfl ?_
        refine .p rfl rfl (.pickT rfl rfl) ?_
        refine .nil (.code (.keep [(27, _), (3, _), (1, _)] ⟨rfl, rfl, rfl, trivial⟩ (.condT rfl (.seq (.keep [] trivial (.region ?_))))))
        refine .call (first := []) (captured := []) rfl rfl rfl rfl (fail_fn (e := 8) (by decide)) ?_
        rintro r28 w28 ⟨G28, X28⟩
        refine .p rfl rfl (.as rfl) ?_
        refine .nil (.code ?_)
        refine .ret _ rfl ?_
        rw [checkD_8 hl (fun hm => by have := hm.1.2; omega)]
        exact ⟨G28.low (N1.ext.trans X14).size, N1.ext.trans (X14.trans X28)⟩
      · refine .p rfl rfl (.mv rfl) ?_
        refine .call (first := []) (captured := []) rfl rfl rfl rfl (RoomCheck_fn R14) ?_
        rintro _ w25 ⟨rfl, X25⟩
        refine .p rfl rfl (.ne rfl rfl) ?_
        refine .p rfl rfl (.pickF rfl rfl) ?_
        refine .nil (.code (.keep [(27, _), (3, _), (1, _)] ⟨rfl, rfl, rfl, trivial⟩ ?_))
        refine .condD rfl (fun c27 => ?_) (fun c27 => ?_)
        · refine .seq (.keep [] trivial (.region ?_))
          refine .call (first := []) (captured := []) rfl rfl rfl rfl (fail_fn (e := 8) (by decide)) ?_
          rintro r28 w28 ⟨G28, X28⟩
          refine .p rfl rfl (.as rfl) ?_
          refine .nil (.code ?_)
          refine .ret _ rfl ?_
          rw [checkD_8 hl (fun hm => c27 hm.2.1)]
          exact ⟨G28.low (N1.ext.trans (X14.trans X25)).size, N1.ext.trans (X14.trans (X25.trans X28))⟩
        · refine .skip (.code (.seq (.seq (.keep [(3, _), (1, _)] ⟨rfl, rfl, trivial⟩ (.region ?_)))))
          refine .p rfl rfl (.mv rfl) ?_
          refine .call (first := []) (captured := []) rfl rfl rfl rfl (ContainsLow_fn ((Sl tPiece).ext0 R14 X25)) ?_
          rintro _ w30 ⟨⟨t30, rfl, ht30⟩, X30⟩
          refine .nil (.code (.keep [(30, _), (1, _)] ⟨rfl, rfl, trivial⟩ ?_))
          refine .cond rfl (fun c30 => ?_) (fun c30 => ?_)
          · refine .seq (.keep [] trivial (.region ?_))
            refine .call (first := []) (captured := []) rfl rfl rfl rfl (fail_fn (e := 8) (by decide)) ?_
            rintro r31 w31 ⟨G31, X31⟩
            refine .p rfl rfl (.as rfl) ?_
            refine .nil (.code ?_)
            refine .ret _ rfl ?_
            obtain ⟨p, hpm, hlow⟩ := ht30.1 c30
            rw [checkD_8 hl (fun hm => by have := hm.2.2.1 p hpm; omega)]
            exact ⟨G31.low (N1.ext.trans (X14.trans (X25.trans X30))).size, N1.ext.trans (X14.trans (X25.trans (X30.trans X31)))⟩
          · refine .skip (.code (.seq (.seq (.keep [(1, _)] ⟨rfl, trivial⟩ (.region ?_)))))
            refine .p rfl rfl (.fieldAddr rfl rfl rfl rfl) ?_
            refine .p rfl rfl (.load rfl rfl rfl (((B14.ext X25 (fun x => x)).ext X30 (fun x => x)).cell 1)) ?_
            refine .p rfl rfl (.len rfl rfl) ?_
            refine .p rfl rfl (.mv rfl) ?_
            refine .nil (.code (.block (.keep [(35, _), (34, _), (33, _), (1, _)] ⟨rfl, rfl, rfl, rfl, trivial⟩ ?_)))
            refine .loop (S := Nat × World) (fun s => [(1, .pointer (some ⟨w.heap.size, 0, none⟩)), (33, .slice a x.fs.length cap), (34, i64 x.fs.length), (35, i64 s.1)]) (fun s => s.2) (fun s => s.1 ≤ x.fs.length ∧ (∀ j (h : j < x.fs.length), j < s.1 → okAt x.fs j h) ∧ Ext (fun _ => False) w1 s.2) (fun s => x.fs.length - s.1) (0, w30) ⟨rfl, rfl, rfl, rfl, trivial⟩ rfl ⟨Nat.zero_le _, fun j _ h => absurd h (Nat.not_lt_zero _), X14.trans (X25.trans X30)⟩ ?_
            rintro ⟨i, wi⟩ J ⟨hi', hok, hX1⟩ again
            simp only at hi' hok hX1
            have hX := N1.ext.trans hX1
            change G _ [(1, .pointer (some ⟨w.heap.size, 0, none⟩)), (33, .slice a x.fs.length cap), (34, i64 x.fs.length), (35, i64 i)] _ _ wi
            refine .seq (.region ?_)
            refine .p rfl rfl (.lt rfl rfl) ?_
            refine .nil (.code (.seq ?_))
            refine .condD rfl (fun c36 => ?_) (fun c36 => ?_)
            · have hi : i < x.fs.length := by omega
              obtain ⟨b1, o1, q1, ue1, e1, _, hcs1, hre1⟩ := Sl.at hf (List.getElem?_eq_getElem hi)
              cases e1
              obtain ⟨fa1, fc1, rfl, hps1, hnm1, hsz1⟩ := tFile.val hre1
              refine .skip (.code (.seq (.block (.seq (.keep [(1, _), (33, _), (34, _), (35, _)] ⟨rfl, rfl, rfl, rfl, trivial⟩ (.region ?_))))))
              refine .p rfl rfl (.mv rfl) ?_
              refine .p rfl rfl (.indexAddr (s := 3) rfl rfl rfl rfl (by omega)) ?_
              refine .p rfl rfl (.loadA (n := 3) rfl rfl rfl rfl rfl (hcs1.ext hX (fun x => x))) ?_
              refine .v rfl rfl (.alloc rfl rfl) ?_
              rintro _ w5 ⟨rfl, N5⟩
              refine .p rfl rfl (.as rfl) ?_
              refine .s rfl (.storeAll (n := 3) rfl rfl rfl rfl rfl N5.blk rfl) ?_
              intro w10 P10
              have Y10 := hX1.trans (N5.ext.then P10.ext (by rintro k rfl _; exact Nat.le_refl _))
              have X10 := N1.ext.trans Y10
              have B10 := P10.blk
              refine .nil (.code (.seq (.seq (.keep [(4, _), (5, _), (1, _), (33, _), (34, _), (35, _)] ⟨rfl, rfl, rfl, rfl, rfl, rfl, trivial⟩ (.mix (fun _ => False) [2] (by kernel_rfl) (by kernel_rfl) (by kernel_rfl) ?_)))))
              refine .p rfl rfl rfl (fun wx hx => .fieldAddr rfl rfl rfl rfl) ?_
              refine .p rfl rfl rfl (fun wx hx => .load rfl rfl rfl ((B10.ext hx (fun x => x)).cell 0)) ?_
              refine .call (first := []) (captured := []) rfl rfl rfl rfl rfl (name_fn hnm1) (by rintro _ _ ⟨_, hx⟩; exact hx) ?_
              rintro _ w42 ⟨rfl, X42⟩
              have Z42 := X10.trans X42
              refine .p rfl rfl rfl (fun wx hx => .not rfl) ?_
              refine .p rfl rfl rfl (fun wx hx => .mv rfl) ?_
              refine .case 44 rfl (fun c44 => ?_) (fun c44 => ?_)
              · refine .skip rfl rfl ?_
                refine .skip rfl rfl ?_
                refine .skip rfl rfl ?_
                refine .skip rfl rfl ?_
                refine .skip rfl rfl ?_
                refine .skip rfl rfl ?_
                refine .skip rfl rfl ?_
                refine .skip rfl rfl ?_
                refine .skip rfl rfl ?_
                refine .skip rfl rfl ?_
                refine .skip rfl rfl ?_
                refine .skip rfl rfl ?_
                refine .skip rfl rfl ?_
                refine .skip rfl rfl ?_
                refine .p rfl rfl rfl (fun wx hx => .pickT rfl rfl) ?_
                refine .p rfl rfl rfl (fun wx hx => .mv rfl) ?_
                refine .skip rfl rfl ?_
                refine .skip rfl rfl ?_
                refine .skip rfl rfl ?_
                refine .p rfl rfl rfl (fun wx hx => .pickT rfl rfl) ?_
                refine .p rfl rfl rfl (fun wx hx => .mv rfl) ?_
                refine .skip rfl rfl ?_
                refine .skip rfl rfl ?_
                refine .skip rfl rfl ?_
                refine .p rfl rfl rfl (fun wx hx => .pickT rfl rfl) ?_
                refine .nil (.code (.keep [(69, _), (5, _), (1, _), (33, _), (34, _), (35, _)] ⟨rfl, rfl, rfl, rfl, rfl, rfl, trivial⟩ (.condT rfl (.seq (.keep [] trivial (.region ?_))))))
                refine .call (first := []) (captured := []) rfl rfl rfl rfl (fail_fn (e := 8) (by decide)) ?_
                rintro r70 w70 ⟨G70, X70⟩
                refine .p rfl rfl (.as rfl) ?_
                refine .nil (.code ?_)
                refine .ret _ rfl ?_
                rw [bad_at hl hi (fun ho => by simp [ho.1] at c44)]
                exact ⟨G70.low (Z42).size, (Z42.trans X70)⟩
              · refine .p rfl rfl rfl (fun wx hx => .mv rfl) ?_
                refine .p rfl rfl rfl (fun wx hx => .gt rfl rfl) ?_
                refine .p rfl rfl rfl (fun wx hx => .mv rfl) ?_
                refine .caseD 47 rfl (fun c47 => ?_) (fun c47 => ?_)
                · have hpos : 0 < i := by omega
                  obtain ⟨b2, o2, q2, ue2, e2, _, hcs2, hre2⟩ := Sl.at hf (i := i - 1) (List.getElem?_eq_getElem (by omega))
                  cases e2
                  obtain ⟨fa2, fc2, rfl, hps2, hnm2, hsz2⟩ := tFile.val hre2
                  have ej : ((i : Int) - 1).toNat = i - 1 := by omega
                  refine .p rfl rfl rfl (fun wx hx => .fieldAddr rfl rfl rfl rfl) ?_
                  refine .p rfl rfl rfl (fun wx hx => .load rfl rfl rfl ((N1.blk.ext (Y10.trans hx) (fun x => x)).cell 1)) ?_
                  refine .p rfl rfl rfl (fun wx hx => .mv rfl) ?_
                  refine .p rfl rfl rfl (fun wx hx => .sub rfl rfl (by omega)) ?_
                  refine .p rfl rfl rfl (fun wx hx => .indexAddr (s := 3) rfl rfl rfl rfl (by omega)) ?_
                  refine .p rfl rfl rfl (fun wx hx => .fieldAddr rfl rfl rfl rfl) ?_
                  refine .p rfl rfl rfl (fun wx hx => .load rfl rfl rfl (by rw [ej]; exact (hcs2.ext (X10.trans hx) (fun x => x)) 0 _ rfl)) ?_
                  refine .p rfl rfl rfl (fun wx hx => .fieldAddr rfl rfl rfl rfl) ?_
                  refine .p rfl rfl rfl (fun wx hx => .load rfl rfl rfl ((B10.ext hx (fun x => x)).cell 0)) ?_
                  refine .p rfl rfl rfl (fun wx hx => .geS rfl rfl) ?_
                  refine .p rfl rfl rfl (fun wx hx => .pickT rfl rfl) ?_
                  refine .p rfl rfl rfl (fun wx hx => .pickF rfl rfl) ?_
                  refine .p rfl rfl rfl (fun wx hx => .mv rfl) ?_
                  refine .case 60 rfl (fun c60 => ?_) (fun c60 => ?_)
                  · refine .skip rfl rfl ?_
                    refine .skip rfl rfl ?_
                    refine .skip rfl rfl ?_
                    refine .p rfl rfl rfl (fun wx hx => .pickT rfl rfl) ?_
                    refine .p rfl rfl rfl (fun wx hx => .mv rfl) ?_
                    refine .skip rfl rfl ?_
                    refine .skip rfl rfl ?_
                    refine .skip rfl rfl ?_
                    refine .p rfl rfl rfl (fun wx hx => .pickT rfl rfl) ?_
                    refine .nil (.code (.keep [(69, _), (5, _), (1, _), (33, _), (34, _), (35, _)] ⟨rfl, rfl, rfl, rfl, rfl, rfl, trivial⟩ (.condT rfl (.seq (.keep [] trivial (.region ?_))))))
                    refine .call (first := []) (captured := []) rfl rfl rfl rfl (fail_fn (e := 8) (by decide)) ?_
                    rintro r70 w70 ⟨G70, X70⟩
                    refine .p rfl rfl (.as rfl) ?_
                    refine .nil (.code ?_)
                    refine .ret _ rfl ?_
                    rw [bad_at hl hi (fun ho => by simp [ho.2.1 hpos] at c60)]
                    exact ⟨G70.low (Z42).size, (Z42.trans X70)⟩
                  · refine .p rfl rfl rfl (fun wx hx => .fieldAddr rfl rfl rfl rfl) ?_
                    refine .p rfl rfl rfl (fun wx hx => .load rfl rfl rfl ((B10.ext hx (fun x => x)).cell 1)) ?_
                    refine .p rfl rfl rfl (fun wx hx => .lt rfl rfl) ?_
                    refine .p rfl rfl rfl (fun wx hx => .pickF rfl rfl) ?_
                    refine .p rfl rfl rfl (fun wx hx => .mv rfl) ?_
                    refine .caseD 65 rfl (fun c65 => ?_) (fun c65 => ?_)
                    · refine .skip rfl rfl ?_
                      refine .skip rfl rfl ?_
                      refine .skip rfl rfl ?_
                      refine .p rfl rfl rfl (fun wx hx => .pickT rfl rfl) ?_
                      refine .nil (.code (.keep [(69, _), (5, _), (1, _), (33, _), (34, _), (35, _)] ⟨rfl, rfl, rfl, rfl, rfl, rfl, trivial⟩ (.condT rfl (.seq (.keep [] trivial (.region ?_))))))
                      refine .call (first := []) (captured := []) rfl rfl rfl rfl (fail_fn (e := 8) (by decide)) ?_
                      rintro r70 w70 ⟨G70, X70⟩
                      refine .p rfl rfl (.as rfl) ?_
                      refine .nil (.code ?_)
                      refine .ret _ rfl ?_
                      rw [bad_at hl hi (fun ho => by have := ho.2.2.1; omega)]
                      exact ⟨G70.low (Z42).size, (Z42.trans X70)⟩
                    · refine .p rfl rfl rfl (fun wx hx => .fieldAddr rfl rfl rfl rfl) ?_
                      refine .p rfl rfl rfl (fun wx hx => .load rfl rfl rfl ((B10.ext hx (fun x => x)).cell 1)) ?_
                      refine .p rfl rfl rfl (fun wx hx => .gt rfl rfl) ?_
                      refine .p rfl rfl rfl (fun wx hx => .pickF rfl rfl) ?_
                      refine .nil (.code (.keep [(69, _), (5, _), (1, _), (33, _), (34, _), (35, _)] ⟨rfl, rfl, rfl, rfl, rfl, rfl, trivial⟩ ?_))
                      refine .condD rfl (fun c69 => ?_) (fun c69 => ?_)
                      · refine .seq (.keep [] trivial (.region ?_))
                        refine .call (first := []) (captured := []) rfl rfl rfl rfl (fail_fn (e := 8) (by decide)) ?_
                        rintro r70 w70 ⟨G70, X70⟩
                        refine .p rfl rfl (.as rfl) ?_
                        refine .nil (.code ?_)
                        refine .ret _ rfl ?_
                        rw [bad_at hl hi (fun ho => by have := ho.2.2.2.1; omega)]
                        exact ⟨G70.low (Z42).size, (Z42.trans X70)⟩
                      · refine .skip (.code (.seq (.keep [(5, _), (1, _), (33, _), (34, _), (35, _)] ⟨rfl, rfl, rfl, rfl, rfl, trivial⟩ (.region ?_))))
                        refine .p rfl rfl (.fieldAddr rfl rfl rfl rfl) ?_
                        refine .p rfl rfl (.load rfl rfl rfl ((B10.ext X42 (fun x => x)).cell 2)) ?_
                        refine .call (first := []) (captured := []) rfl rfl rfl rfl (RoomMany_fn (allOf ((Sl tPiece).ext0 hps1 Z42))) ?_
                        rintro _ w74 ⟨rfl, X74⟩
                        refine .p rfl rfl (.mv rfl) ?_
                        refine .p rfl rfl (.extract rfl rfl) ?_
                        refine .p rfl rfl (.extract rfl rfl) ?_
                        refine .p rfl rfl (.as rfl) ?_
                        refine .p rfl rfl (.as rfl) ?_
                        refine .nil (.code (.seq (.keep [(6, _), (5, _), (1, _), (33, _), (34, _), (35, _)] ⟨rfl, rfl, rfl, rfl, rfl, rfl, trivial⟩ (.region ?_))))
                        refine .p rfl rfl (.mv rfl) ?_
                        refine .p rfl rfl (.fieldAddr rfl rfl rfl rfl) ?_
                        refine .p rfl rfl (.load rfl rfl rfl (((B10.ext X42 (fun x => x)).ext X74 (fun x => x)).cell 1)) ?_
                        refine .call (first := []) (captured := []) rfl rfl rfl rfl (sectors_fn (by omega)) ?_
                        rintro _ wz ⟨rfl, hz⟩
                        subst wz
                        refine .p rfl rfl (.ne rfl rfl) ?_
                        refine .nil (.code (.keep [(81, _), (1, _), (33, _), (34, _), (35, _)] ⟨rfl, rfl, rfl, rfl, rfl, trivial⟩ ?_))
                        refine .condD rfl (fun c81 => ?_) (fun c81 => ?_)
                        · refine .seq (.keep [] trivial (.region ?_))
                          refine .call (first := []) (captured := []) rfl rfl rfl rfl (fail_fn (e := 8) (by decide)) ?_
                          rintro r82 w82 ⟨G82, X82⟩
                          refine .p rfl rfl (.as rfl) ?_
                          refine .nil (.code ?_)
                          refine .ret _ rfl ?_
                          rw [bad_at hl hi (fun ho => c81 (by rw [← manyF_eq]; exact ho.2.2.2.2))]
                          exact ⟨G82.low (Z42.trans X74).size, (Z42.trans (X74.trans X82))⟩
                        · refine .skip (.blk (.code (.keep [(1, _), (33, _), (34, _), (35, _)] ⟨rfl, rfl, rfl, rfl, trivial⟩ (.region ?_))))
                          refine .p rfl rfl (.add rfl rfl (by omega)) ?_
                          refine .p rfl rfl (.mv rfl) ?_
                          refine .nil ?_
                          refine (again (i + 1, w74) ⟨by show i + 1 ≤ _; omega, fun j hj h1 => ?_, Y10.trans (X42.trans X74)⟩ (by show _ - (i + 1) < _ - i; omega)).of ⟨rfl, rfl, rfl, rfl, trivial⟩
                          rcases Nat.lt_or_ge j i with h2 | h2
                          · exact hok j hj h2
                          · have h1 : j < i + 1 := h1
                            obtain rfl : j = i := by omega
                            exact ⟨by simpa using c44, fun _ => by simpa using c60, by omega, by omega, by rw [manyF_eq]; exact Classical.not_not.1 c81⟩
                · refine .skip rfl rfl ?_
                  refine .skip rfl rfl ?_
                  refine .skip rfl rfl ?_
                  refine .skip rfl rfl ?_
                  refine .skip rfl rfl ?_
                  refine .skip rfl rfl ?_
                  refine .skip rfl rfl ?_
                  refine .skip rfl rfl ?_
                  refine .skip rfl rfl ?_
                  refine .skip rfl rfl ?_
                  refine .p rfl rfl rfl (fun wx hx => .pickF rfl rfl) ?_
                  refine .p rfl rfl rfl (fun wx hx => .pickF rfl rfl) ?_
                  refine .p rfl rfl rfl (fun wx hx => .mv rfl) ?_
                  refine .p rfl rfl rfl (fun wx hx => .fieldAddr rfl rfl rfl rfl) ?_
                  refine .p rfl rfl rfl (fun wx hx => .load rfl rfl rfl ((B10.ext hx (fun x => x)).cell 1)) ?_
                  refine .p rfl rfl rfl (fun wx hx => .lt rfl rfl) ?_
                  refine .p rfl rfl rfl (fun wx hx => .pickF rfl rfl) ?_
                  refine .p rfl rfl rfl (fun wx hx => .mv rfl) ?_
                  refine .caseD 65 rfl (fun c65 => ?_) (fun c65 => ?_)
                  · refine .skip rfl rfl ?_
                    refine .skip rfl rfl ?_
                    refine .skip rfl rfl ?_
                    refine .p rfl rfl rfl (fun wx hx => .pickT rfl rfl) ?_
                    refine .nil (.code (.keep [(69, _), (5, _), (1, _), (33, _), (34, _), (35, _)] ⟨rfl, rfl, rfl, rfl, rfl, rfl, trivial⟩ (.condT rfl (.seq (.keep [] trivial (.region ?_))))))
                    refine .call (first := []) (captured := []) rfl rfl rfl rfl (fail_fn (e := 8) (by decide)) ?_
                    rintro r70 w70 ⟨G70, X70⟩
                    refine .p rfl rfl (.as rfl) ?_
                    refine .nil (.code ?_)
                    refine .ret _ rfl ?_
                    rw [bad_at hl hi (fun ho => by have := ho.2.2.1; omega)]
                    exact ⟨G70.low (Z42).size, (Z42.trans X70)⟩
                  · refine .p rfl rfl rfl (fun wx hx => .fieldAddr rfl rfl rfl rfl) ?_
                    refine .p rfl rfl rfl (fun wx hx => .load rfl rfl rfl ((B10.ext hx (fun x => x)).cell 1)) ?_
                    refine .p rfl rfl rfl (fun wx hx => .gt rfl rfl) ?_
                    refine .p rfl rfl rfl (fun wx hx => .pickF rfl rfl) ?_
                    refine .nil (.code (.keep [(69, _), (5, _), (1, _), (33, _), (34, _), (35, _)] ⟨rfl, rfl, rfl, rfl, rfl, rfl, trivial⟩ ?_))
                    refine .condD rfl (fun c69 => ?_) (fun c69 => ?_)
                    · refine .seq (.keep [] trivial (.region ?_))
                      refine .call (first := []) (captured := []) rfl rfl rfl rfl (fail_fn (e := 8) (by decide)) ?_
                      rintro r70 w70 ⟨G70, X70⟩
                      refine .p rfl rfl (.as rfl) ?_
                      refine .nil (.code ?_)
                      refine .ret _ rfl ?_
                      rw [bad_at hl hi (fun ho => by have := ho.2.2.2.1; omega)]
                      exact ⟨G70.low (Z42).size, (Z42.trans X70)⟩
                    · refine .skip (.code (.seq (.keep [(5, _), (1, _), (33, _), (34, _), (35, _)] ⟨rfl, rfl, rfl, rfl, rfl, trivial⟩ (.region ?_))))
                      refine .p rfl rfl (.fieldAddr rfl rfl rfl rfl) ?_
                      refine .p rfl rfl (.load rfl rfl rfl ((B10.ext X42 (fun x => x)).cell 2)) ?_
                      refine .call (first := []) (captured := []) rfl rfl rfl rfl (RoomMany_fn (allOf ((Sl tPiece).ext0 hps1 Z42))) ?_
                      rintro _ w74 ⟨rfl, X74⟩
                      refine .p rfl rfl (.mv rfl) ?_
                      refine .p rfl rfl (.extract rfl rfl) ?_
                      refine .p rfl rfl (.extract rfl rfl) ?_
                      refine .p rfl rfl (.as rfl) ?_
                      refine .p rfl rfl (.as rfl) ?_
                      refine .nil (.code (.seq (.keep [(6, _), (5, _), (1, _), (33, _), (34, _), (35, _)] ⟨rfl, rfl, rfl, rfl, rfl, rfl, trivial⟩ (.region ?_))))
                      refine .p rfl rfl (.mv rfl) ?_
                      refine .p rfl rfl (.fieldAddr rfl rfl rfl rfl) ?_
                      refine .p rfl rfl (.load rfl rfl rfl (((B10.ext X42 (fun x => x)).ext X74 (fun x => x)).cell 1)) ?_
                      refine .call (first := []) (captured := []) rfl rfl rfl rfl (sectors_fn (by omega)) ?_
                      rintro _ wz ⟨rfl, hz⟩
                      subst wz
                      refine .p rfl rfl (.ne rfl rfl) ?_
                      refine .nil (.code (.keep [(81, _), (1, _), (33, _), (34, _), (35, _)] ⟨rfl, rfl, rfl, rfl, rfl, trivial⟩ ?_))
                      refine .condD rfl (fun c81 => ?_) (fun c81 => ?_)
                      · refine .seq (.keep [] trivial (.region ?_))
                        refine .call (first := []) (captured := []) rfl rfl rfl rfl (fail_fn (e := 8) (by decide)) ?_
                        rintro r82 w82 ⟨G82, X82⟩
                        refine .p rfl rfl (.as rfl) ?_
                        refine .nil (.code ?_)
                        refine .ret _ rfl ?_
                        rw [bad_at hl hi (fun ho => c81 (by rw [← manyF_eq]; exact ho.2.2.2.2))]
                        exact ⟨G82.low (Z42.trans X74).size, (Z42.trans (X74.trans X82))⟩
                      · refine .skip (.blk (.code (.keep [(1, _), (33, _), (34, _), (35, _)] ⟨rfl, rfl, rfl, rfl, trivial⟩ (.region ?_))))
                        refine .p rfl rfl (.add rfl rfl (by omega)) ?_
                        refine .p rfl rfl (.mv rfl) ?_
                        refine .nil ?_
                        refine (again (i + 1, w74) ⟨by show i + 1 ≤ _; omega, fun j hj h1 => ?_, Y10.trans (X42.trans X74)⟩ (by show _ - (i + 1) < _ - i; omega)).of ⟨rfl, rfl, rfl, rfl, trivial⟩
                        rcases Nat.lt_or_ge j i with h2 | h2
                        · exact hok j hj h2
                        · have h1 : j < i + 1 := h1
                          obtain rfl : j = i := by omega
                          exact ⟨by simpa using c44, fun h0 => absurd h0 (by omega), by omega, by omega, by rw [manyF_eq]; exact Classical.not_not.1 c81⟩
            · obtain rfl : i = x.fs.length := by omega
              refine .exit rfl (.code (.seq (.keep [] trivial (.region ?_))))
              refine .p rfl rfl (.as rfl) ?_
              refine .nil (.code ?_)
              refine .ret _ rfl ?_
              refine ⟨.inl ⟨checkD_0 hl ⟨by omega, Classical.not_not.1 c27, fun p hpm => Int.not_lt.1 (fun hlt => ?_), fun i hi => hok i hi hi⟩, rfl⟩, hX⟩
              have := ht30.2 ⟨p, hpm, hlt⟩
              rw [c30] at this
              cases this
end Go.Proofs.YtpfehnopghffjaaGreatDoor
namespace Go.Proofs.YtpfehnopghffjaaGreatDoor
open Go Go.Lib
theorem zeroCells_zero (z : Array Value) : Builtin.zeroCells z 0 = #[] := by simp [Builtin.zeroCells]
theorem run_append_room_zeros {P : Program} (w w2 : World) (t tn ty e : TypeId) (i : TypeInfo) (z : Value) (kq kn : IntKind) (ht : P.underlying t = some (.slice e)) (htn : P.underlying tn = some (.int kn)) (hi : P.info? e = some i) (hz : i.zero = some z)
    (b off : Nat) (sLen sCap : Nat) (k : Nat) (hs : 0 < i.size) (hroom : sLen + k ≤ sCap) (h63 : (k : Int) ≤ 9223372036854775807) (h48 : k * i.bytes ≤ 281474976710656)
    (hst : (storeCells ⟨b, off + sLen * i.size, none⟩ (Builtin.zeroCells z.cells k).toList).run P w = Result.ok () w2) :
    (Builtin.append_ #[t, tn] ty #[.slice (some ⟨b, off, none⟩) sLen sCap, .int kq k]).run P w = .ok (.slice (some ⟨b, off, none⟩) (sLen + k) sCap) w2 := by
  have hw : IntKind.i64.wrap (k : Int) = k := by rw [IntKind.wrap_i64]; omega
  have h48i : ¬ (281474976710656 < (k : Int) * (i.bytes : Int)) := by
    rw [← Int.natCast_mul]
    omega
  have hneg : ¬ ((k : Int) < 0) := by omega
  by_cases hk : k = 0
  · subst hk
    rw [zeroCells_zero] at hst
    simp [storeCells] at hst
    simp [Builtin.append_, run_underlying ht, run_underlying htn, sizeOf, typeInfo, zeroValue, hi, hz, asInt, asIntOf, IntKind.wrap_i64, hroom, storeCells, hst]
    omega
  · have hns : ¬ (k * i.size = 0) := Nat.mul_ne_zero hk (by omega)
    simp [Builtin.append_, run_underlying ht, run_underlying htn, sizeOf, typeInfo, zeroValue, hi, hz, asInt, asIntOf, hw, hneg, hns, h48i, hroom, Addr.add_lit, hst]
theorem run_append_none_zeros {P : Program} (w : World) (t tn ty e : TypeId) (i : TypeInfo) (kq kn : IntKind) (ht : P.underlying t = some (.slice e)) (htn : P.underlying tn = some (.int kn)) (hi : P.info? e = some i) :
    (Builtin.append_ #[t, tn] ty #[.slice none 0 0, .int kq 0]).run P w = .ok (.slice none 0 0) w := by
  simp [Builtin.append_, run_underlying ht, run_underlying htn, sizeOf, typeInfo, hi, asInt, asIntOf, IntKind.wrap_i64]
theorem zeroCells_u8 (n : Nat) : (Builtin.zeroCells (u8 0).cells n).toList = flat ((List.replicate n (0 : UInt8)).map u8) := by
  rw [flat_u8, List.map_replicate]
  unfold Builtin.zeroCells
  refine List.eq_replicate_iff.2 ⟨by simp [Value.cells], fun b hb => ?_⟩
  simp [Value.cells, Nat.mod_one] at hb
  exact hb.2.symm
section
variable {P : Program} {e : Env} {w : World} {x y : Operand} {T Tn E : TypeId} {v : Value} {B : Nat → Prop}
theorem DoV.appendZ {i : TypeInfo} {n b : Nat} {xs : Bs} {kn : IntKind} (hx : look e x = some v) (hv : Own tByte (fun _ => False) E w v xs b) (hy : look e y = some (i64 (n : Int)))
    (hT : P.underlying T = some (.slice E)) (hTn : P.underlying Tn = some (.int kn)) (hi : P.info? E = some i) (hz : i.zero = some (u8 0)) (hs : i.size = 1) (hby : i.bytes = 1) (hlen : xs.length + n ≤ 140000000000) :
    DoV P e (.call { callee := .builtin .append, args := #[x, y], argTypes := #[T, Tn] }) w (fun r w2 => ∃ b', Own tByte (fun _ => False) E w2 r (xs ++ List.replicate n 0) b' ∧ Ext (· = b) w w2 ∧ (b' = b ∨ b' = w.heap.size)) := by
  intro w' hw ρ hρ o ho
  obtain ⟨hl, hown⟩ := hv
  have hlim : (xs ++ List.replicate n (0 : UInt8)).length < Lim := by rw [List.length_append, List.length_replicate]; simp only [Lim]; omega
  have hlz : (xs ++ List.replicate n (0 : UInt8)).length = xs.length + n := by rw [List.length_append, List.length_replicate]
  have hgrow : ∀ (base : Option Addr) (sCap : Nat), v = .slice base xs.length sCap → (Builtin.firstCells i.size xs.length (.slice base xs.length sCap)).run P w'.drew = .ok (xs.map u8).toArray w'.drew → sCap < xs.length + n → 0 < n →
      ∃ r w2 w3, (execOp ρ o).run P w' = .ok (.value r) w3 ∧ Same w2 w3 ∧ ∃ b', Own tByte (fun _ => False) E w2 r (xs ++ List.replicate n 0) b' ∧ Ext (· = b) w w2 ∧ (b' = b ∨ b' = w.heap.size) := by
    intro base sCap hvv hfc hg hn0
    have hge := grownCap_ge w' (xs.length + n) sCap E
    generalize hcap : grownCap w' (xs.length + n) sCap E = cap at hge
    have hr := run_append_grow_zeros (P := P) w' T Tn o.type E i (u8 0) .i64 kn hT hTn hi hz base xs.length sCap (xs.map u8) hfc n hn0 (by omega) hg (by omega) (by rw [hby]; omega) (growslice_fits hg (by rw [hby]; omega))
    rw [hcap] at hr
    have hcs : (xs.map u8).toArray ++ Builtin.zeroCells (u8 0).cells n ++ Builtin.zeroCells (u8 0).cells (cap - (xs.length + n)) = (flat ((xs ++ List.replicate n (0 : UInt8)).map u8) ++ (Builtin.zeroCells (u8 0).cells (cap - (xs.length + n))).toList).toArray := by
      apply Array.ext'
      simp only [Array.toList_append, List.map_append, flat_append, zeroCells_u8, flat_u8]
    rw [hcs] at hr
    have hext : Ext (fun _ => False) w (w.alloc (.cells (flat ((xs ++ List.replicate n (0 : UInt8)).map u8) ++ (Builtin.zeroCells (u8 0).cells (cap - (xs.length + n))).toList).toArray E)) := Ext.alloc w _
    refine ⟨.slice (some ⟨w.heap.size, 0, none⟩) (xs.length + n) cap, w.alloc (.cells (flat ((xs ++ List.replicate n (0 : UInt8)).map u8) ++ (Builtin.zeroCells (u8 0).cells (cap - (xs.length + n))).toList).toArray E), w'.drew.alloc (.cells (flat ((xs ++ List.replicate n (0 : UInt8)).map u8) ++ (Builtin.zeroCells (u8 0).cells (cap - (xs.length + n))).toList).toArray E), ?_, (hw.trans (same_draw w')).alloc _, w.heap.size, ?_, hext.mono (fun _ _ hf => hf.elim), .inr rfl⟩
    · rw [hw.heap] at hr
      refine run_append_call ho ?_
      rw [hρ _ _ hx, hρ _ _ hy, hvv]
      exact hr
    · refine ⟨hlim, .inr ⟨cap, (xs ++ List.replicate n (0 : UInt8)).map u8, (Builtin.zeroCells (u8 0).cells (cap - (xs.length + n))).toList, by rw [hlz], by rw [hlz]; exact hge, each_u8 _, Blk.alloc _ _ _, ?_⟩⟩
      rw [flat_u8, List.length_append, List.length_map, hlz, zeroCells_u8, flat_u8, List.length_map, List.length_replicate]
      show xs.length + n + (cap - (xs.length + n)) = cap * 1
      omega
  rcases hown with ⟨rfl, rfl⟩ | ⟨cap, us0, sp, rfl, hc0, he0, hB, hn0⟩
  · by_cases h0 : n = 0
    · subst h0
      refine ⟨.slice none 0 0, w, w', run_append_call ho ?_, hw, b, Own.nil, .refl w, .inl rfl⟩
      rw [hρ _ _ hx, hρ _ _ hy]
      exact run_append_none_zeros (P := P) w' T Tn o.type E i .i64 kn hT hTn hi
    · exact hgrow none 0 rfl (by exact run_firstCells_none w'.drew i.size 0 0 0) (by simp; omega) (by omega)
  · obtain rfl : us0 = xs.map u8 := Each.eq_map u8 he0
    rw [flat_u8] at hB hn0
    by_cases hroom : xs.length + n ≤ cap
    · have hfit : xs.length + (List.replicate n (u8 0)).length ≤ (xs.map u8 ++ sp).length := by
        rw [hn0, List.length_replicate]
        show _ ≤ cap * 1
        omega
      have hB' : Blk w' b E (xs.map u8 ++ sp) := hB.keep (by rw [hw.heap])
      have hzl : (Builtin.zeroCells (u8 0).cells n).toList = List.replicate n (u8 0) := by rw [zeroCells_u8, flat_u8, List.map_replicate]
      have hst := run_storeCells_cells (P := P) b (0 + xs.length * i.size) (List.replicate n (u8 0)) 0 w'
        (fun j hj => by rw [hB'.cell, hs, List.getElem?_eq_getElem (by omega)]; rfl) (fun j hj => hB'.thawed _ (by rw [hs]; omega)) (fun u hu => by rw [List.eq_of_mem_replicate hu]; rfl)
      have hr := run_append_room_zeros (P := P) w' _ T Tn o.type E i (u8 0) .i64 kn hT hTn hi hz b 0 xs.length cap n (by omega) hroom (by omega) (by rw [hby]; omega) (by rw [hzl]; exact hst)
      rw [← putCells_setCells, hs, Nat.zero_add, Nat.mul_one, Nat.add_zero] at hr
      refine ⟨.slice (some ⟨b, 0, none⟩) (xs.length + n) cap, putCells w b xs.length (List.replicate n (u8 0)), putCells w' b xs.length (List.replicate n (u8 0)), run_append_call ho ?_, hw.putCells b _ _, b, ?_, putCells_ext _ _ _ _, .inl rfl⟩
      · rw [hρ _ _ hx, hρ _ _ hy]
        exact hr
      · have hb2 := hB.put (List.replicate n (u8 0)) xs.length
        rw [splice_eq _ _ _ hfit] at hb2
        have e1 : (xs.map u8 ++ sp).take xs.length ++ List.replicate n (u8 0) ++ (xs.map u8 ++ sp).drop (xs.length + (List.replicate n (u8 0)).length) = flat ((xs ++ List.replicate n (0 : UInt8)).map u8) ++ sp.drop n := by
          rw [List.take_left' (by simp), ← List.drop_drop, List.drop_left' (by simp), flat_u8, List.map_append, List.map_replicate, List.length_replicate]
        rw [e1] at hb2
        refine ⟨hlim, .inr ⟨cap, (xs ++ List.replicate n (0 : UInt8)).map u8, sp.drop n, by rw [hlz], by rw [hlz]; exact hroom, each_u8 _, hb2, ?_⟩⟩
        rw [List.length_append, List.length_map] at hn0
        rw [List.length_append, List.length_drop, flat_u8, List.length_map, hlz, ← hn0]
        have : cap * tByte.size = cap * 1 := rfl
        omega
    · refine hgrow _ cap rfl ?_ (by omega) (by omega)
      refine run_firstCells_some (P := P) w'.drew i.size xs.length _ _ _ (xs.map u8) (by rw [List.length_map, hs, Nat.mul_one]) (fun j u hj => ?_)
      rw [add_none]
      have hb' : Blk w' b E (xs.map u8 ++ sp) := hB.keep (by rw [hw.heap])
      have := hb'.cells.left j u hj
      simpa using this
theorem DoV.appendZLo {i : TypeInfo} {n : Nat} {xs : Bs} {kn : IntKind} (hx : look e x = some v) (hv : OwnO tByte (fun _ => False) E w v xs B) (hlo : ∀ k, w.heap.size ≤ k → B k) (hy : look e y = some (i64 (n : Int)))
    (hT : P.underlying T = some (.slice E)) (hTn : P.underlying Tn = some (.int kn)) (hi : P.info? E = some i) (hz : i.zero = some (u8 0)) (hs : i.size = 1) (hby : i.bytes = 1) (hlen : xs.length + n ≤ 140000000000) :
    DoV P e (.call { callee := .builtin .append, args := #[x, y], argTypes := #[T, Tn] }) w (fun r w2 => OwnO tByte (fun _ => False) E w2 r (xs ++ List.replicate n 0) B ∧ Ext B w w2) := by
  have key : ∀ b, B b → Own tByte (fun _ => False) E w v xs b → DoV P e (.call { callee := .builtin .append, args := #[x, y], argTypes := #[T, Tn] }) w (fun r w2 => OwnO tByte (fun _ => False) E w2 r (xs ++ List.replicate n 0) B ∧ Ext B w w2) := by
    intro b hb hO w' hw ρ hρ o ho
    obtain ⟨r, w2, w3, h1, h2, b', h3, h4, h5⟩ := DoV.appendZ (P := P) hx hO hy hT hTn hi hz hs hby hlen w' hw ρ hρ o ho
    exact ⟨r, w2, w3, h1, h2, OwnO.ofOwn h3 (fun _ => h5.elim (fun e => by rw [e]; exact hb) (fun e => by rw [e]; exact hlo _ (Nat.le_refl _))), h4.mono (fun k _ hk => by rw [hk]; exact hb)⟩
  rcases hv with ⟨rfl, rfl⟩ | ⟨b, hb, _, hO⟩
  · exact key w.heap.size (hlo _ (Nat.le_refl _)) Own.nil
  · exact key b hb hO
end
end Go.Proofs.YtpfehnopghffjaaGreatDoor
