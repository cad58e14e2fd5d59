
/-
  LogGrows, LogEmptied: walked.
-/
import Derived.Test.YtapdacjpmmjlhaaLaw05c
set_option linter.unusedVariables false
set_option linter.unusedSimpArgs false
set_option maxRecDepth 20000
namespace Go.Proofs.Ytapdacjpmmjlhaa
open Go disk log
namespace log
theorem crash_none {x : Disk} (h : checkF x = 0) (hw : x.waits = []) (ks : List Bool) : crashF x ks = (x, 0) := by
  unfold crashF
  rw [if_neg (by simp [h])]
  unfold settleD
  obtain ⟨c, dt, ws⟩ := x
  simp only at hw
  subst hw
  rfl
theorem state_parts {y : Disk} {E lst : UInt32} {R : List Bs} {at0 : Nat} (hs : stateF y = (⟨E, lst, R, at0⟩, 0)) : (stateF y).2 = 0 ∧ (stateF y).1.recs = R := by rw [hs]; exact ⟨rfl, rfl⟩
theorem clear_bad {d : Disk} (h : thereF d = 0) (h2 : ¬ (clearF d).2 = 0) : (clearF d).2 = 30 := by
  have C1 := @clear_full d h
  have C2 := @clear_good d h
  generalize epochTo d 63 = ep at C1 C2
  by_cases h3 : ep = 4294967295
  · rw [C1 h3]
  · rw [C2 h3] at h2; exact absurd rfl h2
theorem emptied {d : Disk} (hst : (stateF d).2 = 0) (hcl : (clearF d).2 = 0) (hw : d.waits = []) {n : Nat} (hn : n ≤ (clearF d).1.length) (ks : List Bool) :
    ∃ x y, doF d ((clearF d).1.take n) = (x, 0) ∧ crashF x ks = (y, 0) ∧ (stateF y).2 = 0 ∧ ((stateF y).1.recs = [] ∨ (n < (clearF d).1.length ∧ (stateF y).1.recs = (stateF d).1.recs)) := by
  obtain ⟨h1, h2, h3⟩ := clear_ok hcl
  obtain ⟨hck, hct⟩ := there_ok h1
  have hE := empties hcl (by rw [hw]; exact Nat.zero_le _)
  obtain ⟨h4, h5⟩ := u32_succ_ne h2
  have g2 : ∀ q, q < 63 → (get4 (sec d q)).toNat < (epochTo d 63 + 1).toNat := fun q hq => by have := (epochTo_ge (d := d) 63).2 q hq; rw [h5]; omega
  have hlen : (clearF d).1.length = 2 := by rw [h3]; rfl
  clear h5 h2 hcl
  generalize epochTo d 63 + 1 = e at *
  rw [hlen] at hn ⊢
  match n, hn with
  | 0, _ =>
    refine ⟨d, d, ?_, crash_none hck hw ks, hst, .inr ⟨by omega, rfl⟩⟩
    rw [List.take_zero]
    unfold doF
    rw [if_neg (by simp [hck])]
    rfl
  | 1, _ =>
    have hp := do_put (x := d) (n := 16) (b := clearB (e)) hck (by omega) (by omega) (clearB_length _) (by rw [hw]; decide)
    have hc2 := check_put (p := ⟨16, clearB (e)⟩) hck (by rw [hw]; decide) ⟨by show (0 : Int) ≤ 16; decide, by show (16 : Int) < d.count; omega, clearB_length _⟩
    refine ⟨_, settleD { d with waits := d.waits ++ [⟨16, clearB (e)⟩] } (fun i => ks.getD i false), by rw [h3]; exact hp, by unfold crashF; rw [if_neg (by simp [hc2])], ?_⟩
    have hck3 := check_settle hc2 (fun i => ks.getD i false)
    have hr : ∀ m : Nat, (m : Int) < d.count → readF (settleD { d with waits := d.waits ++ [⟨16, clearB (e)⟩] } (fun i => ks.getD i false)) (m : Int) = if ks.getD 0 false = true ∧ m = 16 then clearB (e) else readF d (m : Int) := by
      intro m hm
      rw [readF_settle, Int.toNat_natCast, settled_sec hc2 _ hm, hw]
      show lastK _ _ m 1 = _
      rw [lastK]
      show (if ks.getD 0 false = true ∧ (16 : Int) = (m : Int) then clearB (e) else lastK _ _ m 0) = _
      by_cases hc : ks.getD 0 false = true ∧ m = 16
      · rw [if_pos ⟨hc.1, by omega⟩, if_pos hc]
      · rw [if_neg (fun hh => hc ⟨hh.1, by omega⟩), if_neg hc, lastK]
        unfold readF
        rw [hw]
        rfl
    have hsec : ∀ q, q < 63 → sec (settleD { d with waits := d.waits ++ [⟨16, clearB (e)⟩] } (fun i => ks.getD i false)) q = sec d q := fun q hq => by
      unfold sec
      rw [hr _ (by omega), if_neg (by omega)]
    by_cases hk : ks.getD 0 false = true
    · have hs := state_fresh (x := settleD { d with waits := d.waits ++ [⟨16, clearB (e)⟩] } (fun i => ks.getD i false)) (e := e) hck3 hct (head_of (by have := hr 16 (by omega); rw [if_pos ⟨hk, rfl⟩] at this; exact this)) h4 (fun hg => by
        rw [hsec 0 (by omega)] at hg
        have := g2 0 (by omega)
        rw [hg] at this
        omega)
      rw [hs]
      exact ⟨rfl, .inl rfl⟩
    · obtain ⟨_, hh, he, hch, hsp, h63⟩ := state_chain hst
      have hhd : headF (settleD { d with waits := d.waits ++ [⟨16, clearB (e)⟩] } (fun i => ks.getD i false)) = headF d := headF_congr (by have := hr 16 (by omega); rw [if_neg (fun hh => hk hh.1)] at this; exact this)
      have hs := state_of (d := settleD { d with waits := d.waits ++ [⟨16, clearB (e)⟩] } (fun i => ks.getD i false)) (there_of hck3 hct) (by rw [hhd]; exact hh) (by rw [hhd]; exact hch.congr (fun q _ h2 => hsec q (by omega)))
        (by rw [hhd]; exact fun r s hv => hsp r s ⟨hv.hE, hv.hs, hv.hr, hv.fit, fun q hq => by rw [← hsec _ (by have := hv.fit; omega)]; exact hv.at' q hq⟩)
      obtain ⟨q1, q2⟩ := state_parts hs
      exact ⟨q1, .inr ⟨by omega, q2⟩⟩
  | 2, _ =>
    obtain ⟨x, e1, e2, e3, e4, e5, e6⟩ := hE
    refine ⟨x, x, by rw [List.take_of_length_le (by omega)]; exact e1, crash_none e2 e4 ks, by rw [e5], .inl (by rw [e5])⟩
end log
theorem LogGrows_fn {w : World} {v : Value} {d : Disk} {record : Bs} (h : tDisk.rep All w v d) (hr : record.length < Lim) : Fn Try.prog 7 [v, str record] w (fun r w2 => r = .bool true ∧ Ext (fun _ => False) w w2) := by
  have R3 := tDisk.mono h (P' := fun k => k < w.heap.size) (fun k _ h => h)
  obtain ⟨u1, q1, u2, q2, rfl⟩ := disk_shape h
  simp only [Lim] at hr
  refine Fn.enter (fun w => Try.call7 _ w) Try.func7 rfl ?_
  refine .seq (.region ?_)
  refine .v rfl rfl (.box rfl) ?_
  rintro _ w2 ⟨rfl, N2⟩
  have X2 := N2.ext
  have z2 := N2.size
  have B2 := N2.blk
  refine .p rfl rfl (.as rfl) ?_
  refine .nil (.code (.seq (.keep [(2, _), (1, _)] ⟨rfl, rfl, trivial⟩ (.region ?_))))
  refine .call (first := []) (captured := []) rfl rfl rfl rfl (alive_fn) ?_
  rintro _ w26 ⟨rfl, X26⟩
  have z26 := X26.size
  refine .p rfl rfl (.as rfl) ?_
  refine .nil (.code (.seq (.seq (.keep [(5, _), (2, _), (1, _)] ⟨rfl, rfl, rfl, trivial⟩ (.region ?_)))))
  refine .p rfl rfl (.mv rfl) ?_
  refine .p rfl rfl (.not rfl) ?_
  refine .nil (.code (.keep [(28, _), (5, _), (2, _), (1, _)] ⟨rfl, rfl, rfl, rfl, trivial⟩ (.condF rfl (.skip (.code (.seq (.seq (.keep [(5, _), (2, _), (1, _)] ⟨rfl, rfl, rfl, trivial⟩ (.region ?_)))))))))
  refine .p rfl rfl (.loadA (n := 3) rfl rfl rfl rfl rfl (B2.ext (S := fun _ => False) (by repeat (first | exact Ext.refl _ | assumption | refine Ext.trans (by assumption) ?_)) (fun x => x)).cells) ?_
  refine .call (first := []) (captured := []) rfl rfl rfl rfl (largeL_fn (allOf (tDisk.ext0 R3 (by repeat (first | exact Ext.refl _ | assumption | refine Ext.trans (by assumption) ?_))))) ?_
  rintro _ w30 ⟨rfl, X30⟩
  have z30 := X30.size
  refine .p rfl rfl (.mv rfl) ?_
  refine .case 31 rfl (fun c31 => ?_) (fun c31 => ?_)
  · refine .skip rfl rfl ?_
    refine .skip rfl rfl ?_
    refine .skip rfl rfl ?_
    refine .p rfl rfl (.pickT rfl rfl) ?_
    refine .nil (.code (.keep [(35, _), (5, _), (2, _), (1, _)] ⟨rfl, rfl, rfl, rfl, trivial⟩ (.condT rfl (.seq (.keep [(5, _)] ⟨rfl, trivial⟩ (.region ?_))))))
    refine .p rfl rfl (.mv rfl) ?_
    refine .p rfl rfl (.as rfl) ?_
    refine .nil (.code ?_)
    refine .ret _ rfl ?_
    exact ⟨rfl, (by repeat (first | exact Ext.refl _ | assumption | refine Ext.trans (by assumption) ?_))⟩
  · obtain ⟨hl1, hl2⟩ := largeL_not c31
    refine .p rfl rfl (.mv rfl) ?_
    refine .p rfl rfl (.lenS rfl rfl) ?_
    refine .p rfl rfl (.gt rfl rfl) ?_
    refine .p rfl rfl (.pickF rfl rfl) ?_
    refine .nil (.code (.keep [(35, _), (5, _), (2, _), (1, _)] ⟨rfl, rfl, rfl, rfl, trivial⟩ ?_))
    refine .condD rfl (fun c35 => ?_) (fun c35 => ?_)
    · refine .seq (.keep [(5, _)] ⟨rfl, trivial⟩ (.region ?_))
      refine .p rfl rfl (.mv rfl) ?_
      refine .p rfl rfl (.as rfl) ?_
      refine .nil (.code ?_)
      refine .ret _ rfl ?_
      exact ⟨rfl, (by repeat (first | exact Ext.refl _ | assumption | refine Ext.trans (by assumption) ?_))⟩
    · refine .skip (.code (.seq (.keep [(5, _), (2, _), (1, _)] ⟨rfl, rfl, rfl, trivial⟩ (.region ?_))))
      refine .p rfl rfl (.loadA (n := 3) rfl rfl rfl rfl rfl (B2.ext (S := fun _ => False) (by repeat (first | exact Ext.refl _ | assumption | refine Ext.trans (by assumption) ?_)) (fun x => x)).cells) ?_
      refine .call (first := []) (captured := []) rfl rfl rfl rfl (Records_fn (allOf (tDisk.ext0 R3 (by repeat (first | exact Ext.refl _ | assumption | refine Ext.trans (by assumption) ?_))))) ?_
      rintro _ w39 ⟨v39, rfl, R39, X39⟩
      have z39 := X39.size
      have R39 := tStrs.mono R39 (P' := fun k => k < w39.heap.size) (fun k _ h => h)
      obtain ⟨a39, c39, rfl, _⟩ := Sl.val R39
      refine .p rfl rfl (.mv rfl) ?_
      refine .p rfl rfl (.extract rfl rfl) ?_
      refine .p rfl rfl (.extract rfl rfl) ?_
      refine .p rfl rfl (.as rfl) ?_
      refine .p rfl rfl (.as rfl) ?_
      refine .nil (.code (.seq (.seq (.keep [(7, _), (6, _), (5, _), (2, _), (1, _)] ⟨rfl, rfl, rfl, rfl, rfl, trivial⟩ (.region ?_)))))
      refine .p rfl rfl (.mv rfl) ?_
      refine .p rfl rfl (.ne rfl rfl) ?_
      refine .nil (.code (.keep [(43, _), (6, _), (5, _), (2, _), (1, _)] ⟨rfl, rfl, rfl, rfl, rfl, trivial⟩ ?_))
      refine .condD rfl (fun c43 => ?_) (fun c43 => ?_)
      · refine .seq (.keep [(5, _)] ⟨rfl, trivial⟩ (.region ?_))
        refine .p rfl rfl (.mv rfl) ?_
        refine .p rfl rfl (.as rfl) ?_
        refine .nil (.code ?_)
        refine .ret _ rfl ?_
        exact ⟨rfl, (by repeat (first | exact Ext.refl _ | assumption | refine Ext.trans (by assumption) ?_))⟩
      · have hst : (stateF d).2 = 0 := Decidable.byContradiction c43
        obtain ⟨hth, hh, hep, _, _, h63⟩ := state_chain hst
        have hsa := (state_at d).2
        refine .skip (.code (.seq (.keep [(6, _), (5, _), (2, _), (1, _)] ⟨rfl, rfl, rfl, rfl, trivial⟩ (.region ?_))))
        refine .p rfl rfl (.loadA (n := 3) rfl rfl rfl rfl rfl (B2.ext (S := fun _ => False) (by repeat (first | exact Ext.refl _ | assumption | refine Ext.trans (by assumption) ?_)) (fun x => x)).cells) ?_
        refine .call (first := []) (captured := []) rfl rfl rfl rfl (At_fn (allOf (tDisk.ext0 R3 (by repeat (first | exact Ext.refl _ | assumption | refine Ext.trans (by assumption) ?_))))) ?_
        rintro _ w47 ⟨rfl, X47⟩
        have z47 := X47.size
        refine .p rfl rfl (.mv rfl) ?_
        refine .p rfl rfl (.extract rfl rfl) ?_
        refine .p rfl rfl (.extract rfl rfl) ?_
        refine .p rfl rfl (.as rfl) ?_
        refine .p rfl rfl (.as rfl) ?_
        refine .nil (.code (.seq (.keep [(8, _), (6, _), (5, _), (2, _), (1, _)] ⟨rfl, rfl, rfl, rfl, rfl, trivial⟩ (.region ?_))))
        refine .p rfl rfl (.loadA (n := 3) rfl rfl rfl rfl rfl (B2.ext (S := fun _ => False) (by repeat (first | exact Ext.refl _ | assumption | refine Ext.trans (by assumption) ?_)) (fun x => x)).cells) ?_
        refine .call (first := []) (captured := []) rfl rfl rfl rfl (Epoch_fn (allOf (tDisk.ext0 R3 (by repeat (first | exact Ext.refl _ | assumption | refine Ext.trans (by assumption) ?_))))) ?_
        rintro _ w52 ⟨rfl, X52⟩
        have z52 := X52.size
        refine .p rfl rfl (.mv rfl) ?_
        refine .p rfl rfl (.extract rfl rfl) ?_
        refine .p rfl rfl (.extract rfl rfl) ?_
        refine .p rfl rfl (.as rfl) ?_
        refine .p rfl rfl (.as rfl) ?_
        refine .nil (.code (.seq (.keep [(10, _), (8, _), (6, _), (5, _), (2, _), (1, _)] ⟨rfl, rfl, rfl, rfl, rfl, rfl, trivial⟩ (.region ?_))))
        refine .p rfl rfl (.loadA (n := 3) rfl rfl rfl rfl rfl (B2.ext (S := fun _ => False) (by repeat (first | exact Ext.refl _ | assumption | refine Ext.trans (by assumption) ?_)) (fun x => x)).cells) ?_
        refine .p rfl rfl (.mv rfl) ?_
        refine .call (first := []) (captured := []) rfl rfl rfl rfl (Add_fn (allOf (tDisk.ext0 R3 (by repeat (first | exact Ext.refl _ | assumption | refine Ext.trans (by assumption) ?_)))) (by simp only [Lim]; omega)) ?_
        rintro _ w58 ⟨v58, Q58, A58, rfl, G58, hQ58, hB58, X58⟩
        have z58 := X58.size
        obtain ⟨a58, c58, rfl, _⟩ := OwnO.val G58
        refine .p rfl rfl (.mv rfl) ?_
        refine .p rfl rfl (.extract rfl rfl) ?_
        refine .p rfl rfl (.extract rfl rfl) ?_
        refine .p rfl rfl (.as rfl) ?_
        refine .p rfl rfl (.as rfl) ?_
        refine .nil (.code (.seq (.seq (.keep [(13, _), (12, _), (10, _), (8, _), (6, _), (5, _), (2, _), (1, _)] ⟨rfl, rfl, rfl, rfl, rfl, rfl, rfl, rfl, trivial⟩ (.region ?_)))))
        refine .p rfl rfl (.mv rfl) ?_
        refine .p rfl rfl (.eq rfl rfl) ?_
        refine .nil (.code (.keep [(62, _), (13, _), (12, _), (10, _), (8, _), (6, _), (5, _), (2, _), (1, _)] ⟨rfl, rfl, rfl, rfl, rfl, rfl, rfl, rfl, rfl, trivial⟩ ?_))
        refine .meet (S := World) (fun s => [(2, .pointer (some ⟨w.heap.size, 0, none⟩)), (5, .bool true), (6, .slice a39 (stateF d).1.recs.length c39), (8, i64 ((stateF d).1.at' : Nat)), (10, u32 (stateF d).1.epoch)]) (fun s => s) (fun s => Ext (fun _ => False) w58 s) ?_ ?_
        · rintro wm Xm
          have zm := Xm.size
          refine .code (.seq (.region ?_))
          refine .p rfl rfl (.loadA (n := 3) rfl rfl rfl rfl rfl (B2.ext (S := fun _ => False) (by repeat (first | exact Ext.refl _ | assumption | refine Ext.trans (by assumption) ?_)) (fun x => x)).cells) ?_
          refine .call (first := []) (captured := []) rfl rfl rfl rfl (Clear_fn (allOf (tDisk.ext0 R3 (by repeat (first | exact Ext.refl _ | assumption | refine Ext.trans (by assumption) ?_))))) ?_
          rintro _ w133 ⟨v133, Q133, A133, rfl, G133, hQ133, hB133, X133⟩
          have z133 := X133.size
          obtain ⟨a133, c133, rfl, _⟩ := OwnO.val G133
          refine .p rfl rfl (.mv rfl) ?_
          refine .p rfl rfl (.extract rfl rfl) ?_
          refine .p rfl rfl (.extract rfl rfl) ?_
          refine .p rfl rfl (.as rfl) ?_
          refine .p rfl rfl (.as rfl) ?_
          refine .nil (.code (.seq (.seq (.keep [(19, _), (18, _), (2, _), (5, _), (6, _), (8, _), (10, _)] ⟨rfl, rfl, rfl, rfl, rfl, rfl, rfl, trivial⟩ (.region ?_)))))
          refine .p rfl rfl (.mv rfl) ?_
          refine .p rfl rfl (.ne rfl rfl) ?_
          refine .nil (.code (.keep [(137, _), (19, _), (18, _), (2, _), (5, _), (6, _), (8, _), (10, _)] ⟨rfl, rfl, rfl, rfl, rfl, rfl, rfl, rfl, trivial⟩ ?_))
          refine .condD rfl (fun c137 => ?_) (fun c137 => ?_)
          · refine .seq (.keep [(19, _), (5, _)] ⟨rfl, rfl, trivial⟩ (.region ?_))
            refine .p rfl rfl (.mv rfl) ?_
            refine .p rfl rfl (.mv rfl) ?_
            refine .p rfl rfl (.mv rfl) ?_
            refine .p rfl rfl (.yes (.eq rfl rfl) (clear_bad hth c137)) ?_
            refine .p rfl rfl (.pickT rfl rfl) ?_
            refine .p rfl rfl (.as rfl) ?_
            refine .nil (.code ?_)
            refine .ret _ rfl ?_
            exact ⟨rfl, (by repeat (first | exact Ext.refl _ | assumption | refine Ext.trans (by assumption) ?_))⟩
          · have hcl : (clearF d).2 = 0 := Decidable.byContradiction c137
            obtain ⟨x', k1, k2, k3, k4, k5, k6⟩ := empties hcl (by omega)
            refine .skip (.code (.seq (.keep [(18, _), (2, _), (5, _), (6, _), (8, _), (10, _)] ⟨rfl, rfl, rfl, rfl, rfl, rfl, trivial⟩ (.region ?_))))
            refine .p rfl rfl (.loadA (n := 3) rfl rfl rfl rfl rfl (B2.ext (S := fun _ => False) (by repeat (first | exact Ext.refl _ | assumption | refine Ext.trans (by assumption) ?_)) (fun x => x)).cells) ?_
            refine .p rfl rfl (.mv rfl) ?_
            refine .call (first := []) (captured := []) rfl rfl rfl rfl (Do_fn (allOf (tDisk.ext0 R3 (by repeat (first | exact Ext.refl _ | assumption | refine Ext.trans (by assumption) ?_)))) (actsOwn (OwnO.ext0 G133 (by repeat (first | exact Ext.refl _ | assumption | refine Ext.trans (by assumption) ?_))))) ?_
            rintro _ w146 ⟨v146, rfl, D146, X146⟩
            have z146 := X146.size
            rw [k1] at D146 ⊢
            obtain ⟨x1, y1, x2, y2, rfl⟩ := D146.val
            refine .p rfl rfl (.mv rfl) ?_
            refine .p rfl rfl (.extract rfl rfl) ?_
            refine .p rfl rfl (.extract rfl rfl) ?_
            refine .v rfl rfl (.alloc rfl rfl) ?_
            rintro _ wn20 ⟨rfl, N20⟩
            refine .s rfl (.storeAll (n := 3) rfl rfl rfl rfl rfl N20.blk rfl) ?_
            intro w20 P20
            have X20 := N20.ext.then P20.ext (by rintro k rfl _; exact Nat.le_refl _)
            have z20 := X20.size
            have B20 := P20.blk
            have l20 := B20.lt
            clear N20 P20
            refine .p rfl rfl (.as rfl) ?_
            refine .nil (.code (.seq (.keep [(21, _), (20, _), (5, _), (6, _), (8, _), (10, _)] ⟨rfl, rfl, rfl, rfl, rfl, rfl, trivial⟩ (.region ?_))))
            refine .p rfl rfl (.loadA (n := 3) rfl rfl rfl rfl rfl (B20.ext (S := fun _ => False) (by repeat (first | exact Ext.refl _ | assumption | refine Ext.trans (by assumption) ?_)) (fun x => x)).cells) ?_
            refine .call (first := []) (captured := []) rfl rfl rfl rfl (Records_fn (d := x') (allOf (tDisk.ext0 D146.rep (by repeat (first | exact Ext.refl _ | assumption | refine Ext.trans (by assumption) ?_))))) ?_
            rintro _ w151 ⟨v151, rfl, R151, X151⟩
            have z151 := X151.size
            rw [k5] at R151 ⊢
            obtain ⟨a151, c151, rfl, _⟩ := Sl.val R151
            refine .p rfl rfl (.mv rfl) ?_
            refine .p rfl rfl (.extract rfl rfl) ?_
            refine .p rfl rfl (.extract rfl rfl) ?_
            refine .p rfl rfl (.as rfl) ?_
            refine .p rfl rfl (.as rfl) ?_
            refine .nil (.code (.seq (.keep [(23, _), (22, _), (21, _), (20, _), (5, _), (6, _), (8, _), (10, _)] ⟨rfl, rfl, rfl, rfl, rfl, rfl, rfl, rfl, trivial⟩ (.region ?_))))
            refine .p rfl rfl (.loadA (n := 3) rfl rfl rfl rfl rfl (B20.ext (S := fun _ => False) (by repeat (first | exact Ext.refl _ | assumption | refine Ext.trans (by assumption) ?_)) (fun x => x)).cells) ?_
            refine .call (first := []) (captured := []) rfl rfl rfl rfl (Epoch_fn (d := x') (allOf (tDisk.ext0 D146.rep (by repeat (first | exact Ext.refl _ | assumption | refine Ext.trans (by assumption) ?_))))) ?_
            rintro _ w156 ⟨rfl, X156⟩
            have z156 := X156.size
            rw [k5]
            refine .p rfl rfl (.mv rfl) ?_
            refine .p rfl rfl (.extract rfl rfl) ?_
            refine .p rfl rfl (.extract rfl rfl) ?_
            refine .p rfl rfl (.as rfl) ?_
            refine .p rfl rfl (.as rfl) ?_
            refine .nil (.code (.seq (.keep [(25, _), (24, _), (23, _), (22, _), (21, _), (5, _), (6, _), (8, _), (10, _)] ⟨rfl, rfl, rfl, rfl, rfl, rfl, rfl, rfl, rfl, trivial⟩ (.region ?_))))
            refine .p rfl rfl (.mv rfl) ?_
            refine .p rfl rfl (.mv rfl) ?_
            refine .p rfl rfl (.mv rfl) ?_
            refine .p rfl rfl (.yes (.eq rfl rfl) (rfl)) ?_
            refine .p rfl rfl (.pickT rfl rfl) ?_
            refine .p rfl rfl (.mv rfl) ?_
            refine .p rfl rfl (.mv rfl) ?_
            refine .p rfl rfl (.yes (.eq rfl rfl) (rfl)) ?_
            refine .p rfl rfl (.pickT rfl rfl) ?_
            refine .p rfl rfl (.mv rfl) ?_
            refine .p rfl rfl (.mv rfl) ?_
            refine .p rfl rfl (.yes (.eq rfl rfl) (rfl)) ?_
            refine .p rfl rfl (.pickT rfl rfl) ?_
            refine .p rfl rfl (.mv rfl) ?_
            refine .p rfl rfl (.mv rfl) ?_
            refine .p rfl rfl (.len rfl rfl) ?_
            refine .p rfl rfl (.yes (.eq rfl rfl) (rfl)) ?_
            refine .p rfl rfl (.pickT rfl rfl) ?_
            refine .p rfl rfl (.mv rfl) ?_
            refine .p rfl rfl (.mv rfl) ?_
            refine .p rfl rfl (.mv rfl) ?_
            refine .p rfl rfl (.yes (.gt rfl rfl) (by show ((stateF d).1.epoch.toNat : Int) < ((epochTo d 63 + 1).toNat : Int); rw [hep]; omega)) ?_
            refine .p rfl rfl (.pickT rfl rfl) ?_
            refine .p rfl rfl (.mv rfl) ?_
            refine .p rfl rfl (.mv rfl) ?_
            refine .p rfl rfl (.mv rfl) ?_
            refine .p rfl rfl (.len rfl rfl) ?_
            refine .p rfl rfl (.yes (.ge rfl rfl) (by have := (state_at d).2; show ((stateF d).1.recs.length : Int) ≤ ((stateF d).1.at' : Int); omega)) ?_
            refine .p rfl rfl (.pickT rfl rfl) ?_
            refine .p rfl rfl (.as rfl) ?_
            refine .nil (.code ?_)
            refine .ret _ rfl ?_
            exact ⟨rfl, (by repeat (first | exact Ext.refl _ | assumption | refine Ext.trans (by assumption) ?_))⟩
        · intro meet
          refine .condD rfl (fun c62 => ?_) (fun c62 => ?_)
          · obtain ⟨x, s, g1, g2, g3, g4, g5, g6, g7, g8, g9, g10', g11, g12⟩ := grows c62 (by omega)
            have g10 : (addF d record).1.length = needs record.length := by rw [g10', actsTo_length]
            have g10 := g10'
            refine .seq (.keep [(12, _), (10, _), (8, _), (6, _), (5, _), (2, _), (1, _)] ⟨rfl, rfl, rfl, rfl, rfl, rfl, rfl, trivial⟩ (.region ?_))
            refine .p rfl rfl (.loadA (n := 3) rfl rfl rfl rfl rfl (B2.ext (S := fun _ => False) (by repeat (first | exact Ext.refl _ | assumption | refine Ext.trans (by assumption) ?_)) (fun x => x)).cells) ?_
            refine .p rfl rfl (.mv rfl) ?_
            refine .call (first := []) (captured := []) rfl rfl rfl rfl (Do_fn (allOf (tDisk.ext0 R3 (by repeat (first | exact Ext.refl _ | assumption | refine Ext.trans (by assumption) ?_)))) (actsOwn (OwnO.ext0 G58 (by repeat (first | exact Ext.refl _ | assumption | refine Ext.trans (by assumption) ?_))))) ?_
            rintro _ w66 ⟨v66, rfl, D66, X66⟩
            have z66 := X66.size
            rw [g1] at D66 ⊢
            obtain ⟨x1, y1, x2, y2, rfl⟩ := D66.val
            refine .p rfl rfl (.mv rfl) ?_
            refine .p rfl rfl (.extract rfl rfl) ?_
            refine .p rfl rfl (.extract rfl rfl) ?_
            refine .v rfl rfl (.alloc rfl rfl) ?_
            rintro _ wn14 ⟨rfl, N14⟩
            refine .s rfl (.storeAll (n := 3) rfl rfl rfl rfl rfl N14.blk rfl) ?_
            intro w14 P14
            have X14 := N14.ext.then P14.ext (by rintro k rfl _; exact Nat.le_refl _)
            have z14 := X14.size
            have B14 := P14.blk
            have l14 := B14.lt
            clear N14 P14
            refine .p rfl rfl (.as rfl) ?_
            refine .nil (.code (.seq (.keep [(15, _), (14, _), (12, _), (10, _), (8, _), (6, _), (5, _), (2, _), (1, _)] ⟨rfl, rfl, rfl, rfl, rfl, rfl, rfl, rfl, rfl, trivial⟩ (.region ?_))))
            refine .p rfl rfl (.loadA (n := 3) rfl rfl rfl rfl rfl (B14.ext (S := fun _ => False) (by repeat (first | exact Ext.refl _ | assumption | refine Ext.trans (by assumption) ?_)) (fun x => x)).cells) ?_
            refine .call (first := []) (captured := []) rfl rfl rfl rfl (Records_fn (d := x) (allOf (tDisk.ext0 D66.rep (by repeat (first | exact Ext.refl _ | assumption | refine Ext.trans (by assumption) ?_))))) ?_
            rintro _ w71 ⟨v71, rfl, R71, X71⟩
            have z71 := X71.size
            have g6r : (stateF x).1.recs = (stateF d).1.recs ++ [record] := by rw [g6]
            have g6e : (stateF x).2 = 0 := by rw [g6]
            rw [g6r] at R71
            rw [g6e]
            have hll : ((stateF d).1.recs ++ [record]).length = (stateF d).1.recs.length + 1 := by simp
            have e92 : ((((stateF d).1.recs ++ [record]).take (stateF d).1.recs.length).drop 0) = (stateF d).1.recs := by simp
            have elast : ((stateF d).1.recs ++ [record])[(stateF d).1.recs.length]? = some record := by simp
            generalize (stateF d).1.recs ++ [record] = rr at R71 hll e92 elast
            obtain ⟨a71, c71, rfl, hc71⟩ := Sl.val R71
            have R92 := Sl.cut R71 0 (stateF d).1.recs.length (by omega) (by omega)
            rw [e92] at R92
            obtain ⟨b71, o71, rfl, _, hl71, _⟩ := Sl.strAt R71 (k := (stateF d).1.recs.length) (by omega)
            have er71 : rr[(stateF d).1.recs.length]'(by omega) = record := by rw [List.getElem?_eq_getElem (by omega)] at elast; exact Option.some.inj elast
            rw [er71] at hl71
            refine .p rfl rfl (.mv rfl) ?_
            refine .p rfl rfl (.extract rfl rfl) ?_
            refine .p rfl rfl (.extract rfl rfl) ?_
            refine .p rfl rfl (.as rfl) ?_
            refine .p rfl rfl (.as rfl) ?_
            refine .nil (.code (.seq (.keep [(17, _), (16, _), (15, _), (12, _), (10, _), (8, _), (6, _), (5, _), (2, _), (1, _)] ⟨rfl, rfl, rfl, rfl, rfl, rfl, rfl, rfl, rfl, rfl, trivial⟩ (.region ?_))))
            refine .p rfl rfl (.mv rfl) ?_
            refine .p rfl rfl (.no (.ne rfl rfl) (fun h => h rfl)) ?_
            refine .p rfl rfl (.mv rfl) ?_
            refine .p rfl rfl (.mv rfl) ?_
            refine .p rfl rfl (.no (.ne rfl rfl) (fun h => h rfl)) ?_
            refine .p rfl rfl (.pickF rfl rfl) ?_
            refine .p rfl rfl (.mv rfl) ?_
            refine .p rfl rfl (.mv rfl) ?_
            refine .p rfl rfl (.len rfl rfl) ?_
            refine .p rfl rfl (.mv rfl) ?_
            refine .p rfl rfl (.len rfl rfl) ?_
            refine .p rfl rfl (.add rfl rfl (by omega)) ?_
            refine .p rfl rfl (.no (.ne rfl rfl) (fun h => h (by rw [hll]; rfl))) ?_
            refine .p rfl rfl (.pickF rfl rfl) ?_
            refine .p rfl rfl (.mv rfl) ?_
            refine .p rfl rfl (.mv rfl) ?_
            refine .p rfl rfl (.mv rfl) ?_
            refine .p rfl rfl (.len rfl rfl) ?_
            refine .p rfl rfl (.cutHi (s := 1) rfl rfl rfl rfl (by omega)) ?_
            refine .p rfl rfl (.mv rfl) ?_
            refine .call (first := []) (captured := []) rfl rfl rfl rfl (textsT_fn (allOf R92) (allOf (tStrs.ext0 R39 (by repeat (first | exact Ext.refl _ | assumption | refine Ext.trans (by assumption) ?_))))) ?_
            rintro _ w94 ⟨rfl, X94⟩
            have z94 := X94.size
            refine .p rfl rfl (.not rfl) ?_
            refine .p rfl rfl (.pickF rfl rfl) ?_
            refine .p rfl rfl (.mv rfl) ?_
            refine .p rfl rfl (.mv rfl) ?_
            refine .p rfl rfl (.mv rfl) ?_
            refine .p rfl rfl (.len rfl rfl) ?_
            refine .p rfl rfl (.indexAddr1 rfl rfl rfl rfl (by omega)) ?_
            refine .p rfl rfl (.load rfl rfl rfl (X94.cell hl71 (fun x => x))) ?_
            refine .p rfl rfl (.mv rfl) ?_
            refine .p rfl rfl (.no (.neS rfl rfl) (fun h => h rfl)) ?_
            refine .p rfl rfl (.pickF rfl rfl) ?_
            refine .p rfl rfl (.mv rfl) ?_
            refine .p rfl rfl (.mv rfl) ?_
            refine .p rfl rfl (.len rfl rfl) ?_
            refine .p rfl rfl (.mv rfl) ?_
            refine .p rfl rfl (.lenS rfl rfl) ?_
            refine .p rfl rfl (.add rfl rfl (by omega)) ?_
            refine .p rfl rfl (.quo rfl rfl (by omega)) ?_
            refine .p rfl rfl (.max2 rfl rfl) ?_
            refine .p rfl rfl (.no (.ne rfl rfl) (fun h => h (by rw [g10, actsTo_length]; unfold needs; omega))) ?_
            refine .p rfl rfl (.pickF rfl rfl) ?_
            refine .nil (.code (.keep [(115, _), (10, _), (8, _), (6, _), (5, _), (2, _)] ⟨rfl, rfl, rfl, rfl, rfl, rfl, trivial⟩ (.condF rfl (.skip ?_))))
            exact (meet _ (by repeat (first | exact Ext.refl _ | assumption | refine Ext.trans (by assumption) ?_))).of ⟨rfl, rfl, rfl, rfl, rfl, trivial⟩
          · have hiff : ((addF d record).2 = 3 ↔ (4096 : Int) < (record.length : Nat)) ∧ (¬ (4096 : Int) < (record.length : Nat) → (addF d record).2 = 30) := by
              by_cases q2 : 4096 < record.length
              · rw [add_long hst q2]; exact ⟨⟨fun _ => by omega, fun _ => rfl⟩, fun q => by omega⟩
              · by_cases q3 : 63 < (stateF d).1.at' + needs record.length
                · rw [add_full hst q2 q3]; exact ⟨⟨fun q => absurd q (by decide), fun q => by omega⟩, fun _ => rfl⟩
                · by_cases q4 : saltF d (stateF d).1.epoch (stateF d).1.at' = 4294967295
                  · rw [add_salt hst q2 q3 q4]; exact ⟨⟨fun q => absurd q (by decide), fun q => by omega⟩, fun _ => rfl⟩
                  · rw [add_good hst q2 q3 q4] at c62; exact absurd rfl c62
            obtain ⟨hiff, hi30⟩ := hiff
            refine .seq (.keep [(13, _), (10, _), (8, _), (6, _), (5, _), (2, _), (1, _)] ⟨rfl, rfl, rfl, rfl, rfl, rfl, rfl, trivial⟩ (.region ?_))
            refine .p rfl rfl (.mv rfl) ?_
            refine .p rfl rfl (.eq rfl rfl) ?_
            refine .p rfl rfl (.mv rfl) ?_
            refine .p rfl rfl (.lenS rfl rfl) ?_
            refine .p rfl rfl (.gt rfl rfl) ?_
            refine .p rfl rfl (.cast (.neB rfl rfl rfl) (show _ = Value.bool false from congrArg Value.bool (by simp [hiff]))) ?_
            refine .p rfl rfl (.mv rfl) ?_
            refine .p rfl rfl (.mv rfl) ?_
            refine .p rfl rfl (.lenS rfl rfl) ?_
            refine .p rfl rfl (.le rfl rfl) ?_
            refine .p rfl rfl (.mv rfl) ?_
            refine .caseD 126 rfl (fun c126 => ?_) (fun c126 => ?_)
            · have h30 := hi30 (by omega)
              refine .p rfl rfl (.mv rfl) ?_
              refine .p rfl rfl (.no (.ne rfl rfl) (fun h => h h30 )) ?_
              refine .p rfl rfl (.pickT rfl rfl) ?_
              refine .p rfl rfl (.pickF rfl rfl) ?_
              refine .nil (.code (.keep [(130, _), (10, _), (8, _), (6, _), (5, _), (2, _)] ⟨rfl, rfl, rfl, rfl, rfl, rfl, trivial⟩ (.condF rfl (.skip ?_))))
              exact (meet _ (by repeat (first | exact Ext.refl _ | assumption | refine Ext.trans (by assumption) ?_))).of ⟨rfl, rfl, rfl, rfl, rfl, trivial⟩
            · refine .skip rfl rfl ?_
              refine .skip rfl rfl ?_
              refine .p rfl rfl (.pickF rfl rfl) ?_
              refine .p rfl rfl (.pickF rfl rfl) ?_
              refine .nil (.code (.keep [(130, _), (10, _), (8, _), (6, _), (5, _), (2, _)] ⟨rfl, rfl, rfl, rfl, rfl, rfl, trivial⟩ (.condF rfl (.skip ?_))))
              exact (meet _ (by repeat (first | exact Ext.refl _ | assumption | refine Ext.trans (by assumption) ?_))).of ⟨rfl, rfl, rfl, rfl, rfl, trivial⟩
theorem LogEmptied_fn {w : World} {v vk : Value} {d : Disk} {n : Int} {ks : List Bool} (h : tDisk.rep All w v d) (hk : (Sl tBool).rep All w vk ks) : Fn Try.prog 10 [v, i64 n, vk] w (fun r w2 => r = .bool true ∧ Ext (fun _ => False) w w2) := by
  have R3 := tDisk.mono h (P' := fun k => k < w.heap.size) (fun k _ h => h)
  obtain ⟨u1, q1, u2, q2, rfl⟩ := disk_shape h
  have hkb := (Sl tBool).mono hk (P' := fun k => k < w.heap.size) (fun k _ h => h)
  obtain ⟨ak, capk, rfl, hcapk⟩ := Sl.val hk
  refine Fn.enter (fun w => Try.call10 _ w) Try.func10 rfl ?_
  refine .seq (.region ?_)
  refine .v rfl rfl (.box rfl) ?_
  rintro _ w3 ⟨rfl, N3⟩
  have X3 := N3.ext
  have z3 := N3.size
  have B3 := N3.blk
  refine .p rfl rfl (.as rfl) ?_
  refine .nil (.code (.seq (.keep [(3, _), (1, _), (2, _)] ⟨rfl, rfl, rfl, trivial⟩ (.region ?_))))
  refine .call (first := []) (captured := []) rfl rfl rfl rfl (alive_fn) ?_
  rintro _ w18 ⟨rfl, X18⟩
  have z18 := X18.size
  refine .p rfl rfl (.as rfl) ?_
  refine .nil (.code (.seq (.seq (.keep [(7, _), (3, _), (1, _), (2, _)] ⟨rfl, rfl, rfl, rfl, trivial⟩ (.region ?_)))))
  refine .p rfl rfl (.mv rfl) ?_
  refine .p rfl rfl (.not rfl) ?_
  refine .nil (.code (.keep [(20, _), (7, _), (3, _), (1, _), (2, _)] ⟨rfl, rfl, rfl, rfl, rfl, trivial⟩ (.condF rfl (.skip (.code (.seq (.seq (.keep [(7, _), (3, _), (1, _), (2, _)] ⟨rfl, rfl, rfl, rfl, trivial⟩ (.region ?_)))))))))
  refine .p rfl rfl (.loadA (n := 3) rfl rfl rfl rfl rfl (B3.ext (S := fun _ => False) (by repeat (first | exact Ext.refl _ | assumption | refine Ext.trans (by assumption) ?_)) (fun x => x)).cells) ?_
  refine .call (first := []) (captured := []) rfl rfl rfl rfl (largeL_fn (allOf (tDisk.ext0 R3 (by repeat (first | exact Ext.refl _ | assumption | refine Ext.trans (by assumption) ?_))))) ?_
  rintro _ w22 ⟨rfl, X22⟩
  have z22 := X22.size
  refine .p rfl rfl (.mv rfl) ?_
  refine .case 23 rfl (fun c23 => ?_) (fun c23 => ?_)
  · refine .skip rfl rfl ?_
    refine .skip rfl rfl ?_
    refine .skip rfl rfl ?_
    refine .skip rfl rfl ?_
    refine .p rfl rfl (.pickT rfl rfl) ?_
    refine .p rfl rfl (.mv rfl) ?_
    refine .skip rfl rfl ?_
    refine .skip rfl rfl ?_
    refine .skip rfl rfl ?_
    refine .p rfl rfl (.pickT rfl rfl) ?_
    refine .nil (.code (.keep [(33, _), (7, _), (3, _), (1, _), (2, _)] ⟨rfl, rfl, rfl, rfl, rfl, trivial⟩ (.condT rfl (.seq (.keep [(7, _)] ⟨rfl, trivial⟩ (.region ?_))))))
    refine .p rfl rfl (.mv rfl) ?_
    refine .p rfl rfl (.as rfl) ?_
    refine .nil (.code ?_)
    refine .ret _ rfl ?_
    first
      | exact ⟨rfl, (by repeat (first | exact Ext.refl _ | assumption | refine Ext.trans (by assumption) ?_))⟩
      | exact ⟨by rw [decide_eq_true ((p4.resolve_left (fun hh => c98 (by rw [hh]; rfl))).2)]; rfl, (by repeat (first | exact Ext.refl _ | assumption | refine Ext.trans (by assumption) ?_))⟩
      | exact absurd (by have := (p4.resolve_left (fun hh => c98 (by rw [hh]; rfl))).1; omega) c103
  · refine .p rfl rfl (.fieldAddr rfl rfl rfl rfl) ?_
    refine .p rfl rfl (.load rfl rfl rfl ((B3.ext (S := fun _ => False) (by repeat (first | exact Ext.refl _ | assumption | refine Ext.trans (by assumption) ?_)) (fun x => x)).cell 2)) ?_
    refine .p rfl rfl (.len rfl rfl) ?_
    refine .p rfl rfl (.gt rfl rfl) ?_
    refine .p rfl rfl (.pickF rfl rfl) ?_
    refine .p rfl rfl (.mv rfl) ?_
    refine .caseD 29 rfl (fun c29 => ?_) (fun c29 => ?_)
    · refine .skip rfl rfl ?_
      refine .skip rfl rfl ?_
      refine .skip rfl rfl ?_
      refine .p rfl rfl (.pickT rfl rfl) ?_
      refine .nil (.code (.keep [(33, _), (7, _), (3, _), (1, _), (2, _)] ⟨rfl, rfl, rfl, rfl, rfl, trivial⟩ (.condT rfl (.seq (.keep [(7, _)] ⟨rfl, trivial⟩ (.region ?_))))))
      refine .p rfl rfl (.mv rfl) ?_
      refine .p rfl rfl (.as rfl) ?_
      refine .nil (.code ?_)
      refine .ret _ rfl ?_
      first
        | exact ⟨rfl, (by repeat (first | exact Ext.refl _ | assumption | refine Ext.trans (by assumption) ?_))⟩
        | exact ⟨by rw [decide_eq_true ((p4.resolve_left (fun hh => c98 (by rw [hh]; rfl))).2)]; rfl, (by repeat (first | exact Ext.refl _ | assumption | refine Ext.trans (by assumption) ?_))⟩
        | exact absurd (by have := (p4.resolve_left (fun hh => c98 (by rw [hh]; rfl))).1; omega) c103
    · refine .p rfl rfl (.mv rfl) ?_
      refine .p rfl rfl (.len rfl rfl) ?_
      refine .p rfl rfl (.gt rfl rfl) ?_
      refine .p rfl rfl (.pickF rfl rfl) ?_
      refine .nil (.code (.keep [(33, _), (7, _), (3, _), (1, _), (2, _)] ⟨rfl, rfl, rfl, rfl, rfl, trivial⟩ ?_))
      refine .condD rfl (fun c33 => ?_) (fun c33 => ?_)
      · refine .seq (.keep [(7, _)] ⟨rfl, trivial⟩ (.region ?_))
        refine .p rfl rfl (.mv rfl) ?_
        refine .p rfl rfl (.as rfl) ?_
        refine .nil (.code ?_)
        refine .ret _ rfl ?_
        first
          | exact ⟨rfl, (by repeat (first | exact Ext.refl _ | assumption | refine Ext.trans (by assumption) ?_))⟩
          | exact ⟨by rw [decide_eq_true ((p4.resolve_left (fun hh => c98 (by rw [hh]; rfl))).2)]; rfl, (by repeat (first | exact Ext.refl _ | assumption | refine Ext.trans (by assumption) ?_))⟩
          | exact absurd (by have := (p4.resolve_left (fun hh => c98 (by rw [hh]; rfl))).1; omega) c103
      · refine .skip (.code (.seq (.keep [(7, _), (3, _), (1, _), (2, _)] ⟨rfl, rfl, rfl, rfl, trivial⟩ (.region ?_))))
        refine .p rfl rfl (.loadA (n := 3) rfl rfl rfl rfl rfl (B3.ext (S := fun _ => False) (by repeat (first | exact Ext.refl _ | assumption | refine Ext.trans (by assumption) ?_)) (fun x => x)).cells) ?_
        refine .call (first := []) (captured := []) rfl rfl rfl rfl (Records_fn (allOf (tDisk.ext0 R3 (by repeat (first | exact Ext.refl _ | assumption | refine Ext.trans (by assumption) ?_))))) ?_
        rintro _ w37 ⟨v37, rfl, R37, X37⟩
        have z37 := X37.size
        have R37 := tStrs.mono R37 (P' := fun k => k < w37.heap.size) (fun k _ h => h)
        obtain ⟨a37, c37, rfl, _⟩ := Sl.val R37
        refine .p rfl rfl (.mv rfl) ?_
        refine .p rfl rfl (.extract rfl rfl) ?_
        refine .p rfl rfl (.extract rfl rfl) ?_
        refine .p rfl rfl (.as rfl) ?_
        refine .p rfl rfl (.as rfl) ?_
        refine .nil (.code (.seq (.keep [(9, _), (8, _), (7, _), (3, _), (1, _), (2, _)] ⟨rfl, rfl, rfl, rfl, rfl, rfl, trivial⟩ (.region ?_))))
        refine .p rfl rfl (.loadA (n := 3) rfl rfl rfl rfl rfl (B3.ext (S := fun _ => False) (by repeat (first | exact Ext.refl _ | assumption | refine Ext.trans (by assumption) ?_)) (fun x => x)).cells) ?_
        refine .call (first := []) (captured := []) rfl rfl rfl rfl (Clear_fn (allOf (tDisk.ext0 R3 (by repeat (first | exact Ext.refl _ | assumption | refine Ext.trans (by assumption) ?_))))) ?_
        rintro _ w42 ⟨v42, Q42, A42, rfl, G42, hQ42, hB42, X42⟩
        have z42 := X42.size
        obtain ⟨aa, ca, rfl, hca⟩ := OwnO.val G42
        have hlA : (Sl tAct).rep (fun k => k < w42.heap.size) w42 _ (clearF d).1 := (Sl tAct).mono (actsOwn G42) (fun k _ h => h)
        refine .p rfl rfl (.mv rfl) ?_
        refine .p rfl rfl (.extract rfl rfl) ?_
        refine .p rfl rfl (.extract rfl rfl) ?_
        refine .p rfl rfl (.as rfl) ?_
        refine .p rfl rfl (.as rfl) ?_
        refine .nil (.code (.seq (.seq (.keep [(11, _), (10, _), (9, _), (8, _), (7, _), (3, _), (1, _), (2, _)] ⟨rfl, rfl, rfl, rfl, rfl, rfl, rfl, rfl, trivial⟩ (.region ?_)))))
        refine .p rfl rfl (.mv rfl) ?_
        refine .p rfl rfl (.ne rfl rfl) ?_
        refine .p rfl rfl (.mv rfl) ?_
        refine .caseD 47 rfl (fun c47 => ?_) (fun c47 => ?_)
        · refine .skip rfl rfl ?_
          refine .skip rfl rfl ?_
          refine .p rfl rfl (.pickT rfl rfl) ?_
          refine .p rfl rfl (.mv rfl) ?_
          refine .skip rfl rfl ?_
          refine .skip rfl rfl ?_
          refine .p rfl rfl (.pickT rfl rfl) ?_
          refine .p rfl rfl (.mv rfl) ?_
          refine .skip rfl rfl ?_
          refine .skip rfl rfl ?_
          refine .skip rfl rfl ?_
          refine .skip rfl rfl ?_
          refine .p rfl rfl (.pickT rfl rfl) ?_
          refine .nil (.code (.keep [(60, _), (10, _), (8, _), (7, _), (3, _), (1, _), (2, _)] ⟨rfl, rfl, rfl, rfl, rfl, rfl, rfl, trivial⟩ (.condT rfl (.seq (.keep [(7, _)] ⟨rfl, trivial⟩ (.region ?_))))))
          refine .p rfl rfl (.mv rfl) ?_
          refine .p rfl rfl (.as rfl) ?_
          refine .nil (.code ?_)
          refine .ret _ rfl ?_
          first
            | exact ⟨rfl, (by repeat (first | exact Ext.refl _ | assumption | refine Ext.trans (by assumption) ?_))⟩
            | exact ⟨by rw [decide_eq_true ((p4.resolve_left (fun hh => c98 (by rw [hh]; rfl))).2)]; rfl, (by repeat (first | exact Ext.refl _ | assumption | refine Ext.trans (by assumption) ?_))⟩
            | exact absurd (by have := (p4.resolve_left (fun hh => c98 (by rw [hh]; rfl))).1; omega) c103
        · refine .p rfl rfl (.mv rfl) ?_
          refine .p rfl rfl (.ne rfl rfl) ?_
          refine .p rfl rfl (.pickF rfl rfl) ?_
          refine .p rfl rfl (.mv rfl) ?_
          refine .caseD 51 rfl (fun c51 => ?_) (fun c51 => ?_)
          · refine .skip rfl rfl ?_
            refine .skip rfl rfl ?_
            refine .p rfl rfl (.pickT rfl rfl) ?_
            refine .p rfl rfl (.mv rfl) ?_
            refine .skip rfl rfl ?_
            refine .skip rfl rfl ?_
            refine .skip rfl rfl ?_
            refine .skip rfl rfl ?_
            refine .p rfl rfl (.pickT rfl rfl) ?_
            refine .nil (.code (.keep [(60, _), (10, _), (8, _), (7, _), (3, _), (1, _), (2, _)] ⟨rfl, rfl, rfl, rfl, rfl, rfl, rfl, trivial⟩ (.condT rfl (.seq (.keep [(7, _)] ⟨rfl, trivial⟩ (.region ?_))))))
            refine .p rfl rfl (.mv rfl) ?_
            refine .p rfl rfl (.as rfl) ?_
            refine .nil (.code ?_)
            refine .ret _ rfl ?_
            first
              | exact ⟨rfl, (by repeat (first | exact Ext.refl _ | assumption | refine Ext.trans (by assumption) ?_))⟩
              | exact ⟨by rw [decide_eq_true ((p4.resolve_left (fun hh => c98 (by rw [hh]; rfl))).2)]; rfl, (by repeat (first | exact Ext.refl _ | assumption | refine Ext.trans (by assumption) ?_))⟩
              | exact absurd (by have := (p4.resolve_left (fun hh => c98 (by rw [hh]; rfl))).1; omega) c103
          · refine .p rfl rfl (.mv rfl) ?_
            refine .p rfl rfl (.lt rfl rfl) ?_
            refine .p rfl rfl (.pickF rfl rfl) ?_
            refine .p rfl rfl (.mv rfl) ?_
            refine .caseD 55 rfl (fun c55 => ?_) (fun c55 => ?_)
            · refine .skip rfl rfl ?_
              refine .skip rfl rfl ?_
              refine .skip rfl rfl ?_
              refine .skip rfl rfl ?_
              refine .p rfl rfl (.pickT rfl rfl) ?_
              refine .nil (.code (.keep [(60, _), (10, _), (8, _), (7, _), (3, _), (1, _), (2, _)] ⟨rfl, rfl, rfl, rfl, rfl, rfl, rfl, trivial⟩ (.condT rfl (.seq (.keep [(7, _)] ⟨rfl, trivial⟩ (.region ?_))))))
              refine .p rfl rfl (.mv rfl) ?_
              refine .p rfl rfl (.as rfl) ?_
              refine .nil (.code ?_)
              refine .ret _ rfl ?_
              first
                | exact ⟨rfl, (by repeat (first | exact Ext.refl _ | assumption | refine Ext.trans (by assumption) ?_))⟩
                | exact ⟨by rw [decide_eq_true ((p4.resolve_left (fun hh => c98 (by rw [hh]; rfl))).2)]; rfl, (by repeat (first | exact Ext.refl _ | assumption | refine Ext.trans (by assumption) ?_))⟩
                | exact absurd (by have := (p4.resolve_left (fun hh => c98 (by rw [hh]; rfl))).1; omega) c103
            · refine .p rfl rfl (.mv rfl) ?_
              refine .p rfl rfl (.mv rfl) ?_
              refine .p rfl rfl (.len rfl rfl) ?_
              refine .p rfl rfl (.gt rfl rfl) ?_
              refine .p rfl rfl (.pickF rfl rfl) ?_
              refine .nil (.code (.keep [(60, _), (10, _), (8, _), (7, _), (3, _), (1, _), (2, _)] ⟨rfl, rfl, rfl, rfl, rfl, rfl, rfl, trivial⟩ ?_))
              refine .condD rfl (fun c60 => ?_) (fun c60 => ?_)
              · refine .seq (.keep [(7, _)] ⟨rfl, trivial⟩ (.region ?_))
                refine .p rfl rfl (.mv rfl) ?_
                refine .p rfl rfl (.as rfl) ?_
                refine .nil (.code ?_)
                refine .ret _ rfl ?_
                first
                  | exact ⟨rfl, (by repeat (first | exact Ext.refl _ | assumption | refine Ext.trans (by assumption) ?_))⟩
                  | exact ⟨by rw [decide_eq_true ((p4.resolve_left (fun hh => c98 (by rw [hh]; rfl))).2)]; rfl, (by repeat (first | exact Ext.refl _ | assumption | refine Ext.trans (by assumption) ?_))⟩
                  | exact absurd (by have := (p4.resolve_left (fun hh => c98 (by rw [hh]; rfl))).1; omega) c103
              · have hst : (stateF d).2 = 0 := Decidable.not_not.1 c47
                have hcl : (clearF d).2 = 0 := Decidable.not_not.1 c51
                have hw0 : d.waits = [] := List.length_eq_zero_iff.1 (by omega)
                have hn2 : n.toNat ≤ (clearF d).1.length := by omega
                obtain ⟨x', y, p1, p2, p3, p4⟩ := emptied hst hcl hw0 hn2 ks
                obtain ⟨a45, c45, hv45, hc45, R45⟩ := Sl.cutE hlA 0 n.toNat (by omega) (by omega)
                simp only [Nat.sub_zero] at hv45 R45
                refine .skip (.code (.seq (.keep [(10, _), (8, _), (7, _), (3, _), (1, _), (2, _)] ⟨rfl, rfl, rfl, rfl, rfl, rfl, trivial⟩ ?_)))
                have B3w := B3.ext (S := fun _ => False) (w' := w42) (by repeat (first | exact Ext.refl _ | assumption | refine Ext.trans (by assumption) ?_)) (fun x => x)
                refine .meet (S := Nat × Disk × Int × (Option Addr × Nat × Option Addr × Nat) × World) (fun s => [(1, i64 n), (2, .slice ak ks.length capk), (7, .bool true), (8, .slice a37 (stateF d).1.recs.length c37), (10, .slice aa (clearF d).1.length ca), (12, .pointer (some ⟨s.1, 0, none⟩)), (13, i64 s.2.2.1)]) (fun s => s.2.2.2.2) (fun s => Blk s.2.2.2.2 s.1 36 [i64 s.2.1.count, .slice s.2.2.2.1.1 s.2.1.data.length s.2.2.2.1.2.1, .slice s.2.2.2.1.2.2.1 s.2.1.waits.length s.2.2.2.1.2.2.2] ∧ tDisk.rep All s.2.2.2.2 (.agg #[i64 s.2.1.count, .slice s.2.2.2.1.1 s.2.1.data.length s.2.2.2.1.2.1, .slice s.2.2.2.1.2.2.1 s.2.1.waits.length s.2.2.2.1.2.2.2]) s.2.1 ∧ Ext (fun _ => False) w42 s.2.2.2.2 ∧ doF d (((clearF d).1.take n.toNat).drop 0) = (s.2.1, s.2.2.1) ∧ s.1 < s.2.2.2.2.heap.size) ?_ ?_
                · rintro ⟨p, x, e, ⟨f1, g1, h1, i1⟩, wm⟩ ⟨Bm, Rm, Xm, hxe, hpl⟩
                  simp only at Bm Rm Xm hxe hpl
                  have zwm : w42.heap.size ≤ wm.heap.size := Xm.size
                  change A _ [(1, i64 n), (2, .slice ak ks.length capk), (7, .bool true), (8, .slice a37 (stateF d).1.recs.length c37), (10, .slice aa (clearF d).1.length ca), (12, .pointer (some ⟨p, 0, none⟩)), (13, i64 e)] _ wm
                  refine .code (.seq ?_)
                  rw [List.drop_zero] at hxe
                  obtain ⟨e1, e2⟩ := Prod.mk.inj (hxe.symm.trans p1)
                  subst e1
                  subst e2
                  have R37m : tStrs.rep _ wm _ (stateF d).1.recs := tStrs.ext0 R37 (by repeat (first | exact Ext.refl _ | assumption | refine Ext.trans (by assumption) ?_))
                  refine .region ?_
                  refine .p rfl rfl (.loadA (n := 3) rfl rfl rfl rfl rfl (Bm.ext (S := fun _ => False) (by repeat (first | exact Ext.refl _ | assumption | refine Ext.trans (by assumption) ?_)) (fun x => x)).cells) ?_
                  refine .p rfl rfl (.mv rfl) ?_
                  refine .call (first := []) (captured := []) rfl rfl rfl rfl (Crash_fn (d := x) (ks := ks) (allOf (tDisk.ext0 Rm (by repeat (first | exact Ext.refl _ | assumption | refine Ext.trans (by assumption) ?_)))) (allOf ((Sl tBool).ext0 hkb (by repeat (first | exact Ext.refl _ | assumption | refine Ext.trans (by assumption) ?_))))) ?_
                  rintro _ w73 ⟨v73, rfl, D73, X73⟩
                  have z73 := X73.size
                  rw [p2] at D73 ⊢
                  obtain ⟨x1, y1, x2, y2, rfl⟩ := D73.val
                  refine .p rfl rfl (.mv rfl) ?_
                  refine .p rfl rfl (.extract rfl rfl) ?_
                  refine .p rfl rfl (.extract rfl rfl) ?_
                  refine .v rfl rfl (.alloc rfl rfl) ?_
                  rintro _ wn14 ⟨rfl, N14⟩
                  refine .s rfl (.storeAll (n := 3) rfl rfl rfl rfl rfl N14.blk rfl) ?_
                  intro w14 P14
                  have X14 := N14.ext.then P14.ext (by rintro k rfl _; exact Nat.le_refl _)
                  have z14 := X14.size
                  have B14 := P14.blk
                  have l14 := B14.lt
                  clear N14 P14
                  refine .p rfl rfl (.as rfl) ?_
                  refine .nil (.code (.seq (.keep [(15, _), (14, _), (1, _), (7, _), (8, _), (10, _), (13, _)] ⟨rfl, rfl, rfl, rfl, rfl, rfl, rfl, trivial⟩ (.region ?_))))
                  refine .p rfl rfl (.loadA (n := 3) rfl rfl rfl rfl rfl (B14.ext (S := fun _ => False) (by repeat (first | exact Ext.refl _ | assumption | refine Ext.trans (by assumption) ?_)) (fun x => x)).cells) ?_
                  refine .call (first := []) (captured := []) rfl rfl rfl rfl (Records_fn (d := y) (allOf (tDisk.ext0 D73.rep (by repeat (first | exact Ext.refl _ | assumption | refine Ext.trans (by assumption) ?_))))) ?_
                  rintro _ w78 ⟨v78, rfl, R78, X78⟩
                  have z78 := X78.size
                  obtain ⟨a78, c78, rfl, _⟩ := Sl.val R78
                  refine .p rfl rfl (.mv rfl) ?_
                  refine .p rfl rfl (.extract rfl rfl) ?_
                  refine .p rfl rfl (.extract rfl rfl) ?_
                  refine .p rfl rfl (.as rfl) ?_
                  refine .p rfl rfl (.as rfl) ?_
                  refine .nil (.code (.seq (.keep [(17, _), (16, _), (15, _), (1, _), (7, _), (8, _), (10, _), (13, _)] ⟨rfl, rfl, rfl, rfl, rfl, rfl, rfl, rfl, trivial⟩ (.region ?_))))
                  refine .p rfl rfl (.mv rfl) ?_
                  refine .p rfl rfl (.mv rfl) ?_
                  refine .p rfl rfl (.mv rfl) ?_
                  refine .p rfl rfl (.yes (.eq rfl rfl) (rfl)) ?_
                  refine .p rfl rfl (.pickT rfl rfl) ?_
                  refine .p rfl rfl (.mv rfl) ?_
                  refine .p rfl rfl (.mv rfl) ?_
                  refine .p rfl rfl (.yes (.eq rfl rfl) (rfl)) ?_
                  refine .p rfl rfl (.pickT rfl rfl) ?_
                  refine .p rfl rfl (.mv rfl) ?_
                  refine .p rfl rfl (.mv rfl) ?_
                  refine .p rfl rfl (.yes (.eq rfl rfl) (p3)) ?_
                  refine .p rfl rfl (.pickT rfl rfl) ?_
                  refine .p rfl rfl (.mv rfl) ?_
                  refine .p rfl rfl (.mv rfl) ?_
                  refine .p rfl rfl (.len rfl rfl) ?_
                  refine .p rfl rfl (.eq rfl rfl) ?_
                  refine .p rfl rfl (.mv rfl) ?_
                  refine .caseD 98 rfl (fun c98 => ?_) (fun c98 => ?_)
                  · refine .skip rfl rfl ?_
                    refine .skip rfl rfl ?_
                    refine .skip rfl rfl ?_
                    refine .skip rfl rfl ?_
                    refine .skip rfl rfl ?_
                    refine .skip rfl rfl ?_
                    refine .skip rfl rfl ?_
                    refine .skip rfl rfl ?_
                    refine .skip rfl rfl ?_
                    refine .p rfl rfl (.pickT rfl rfl) ?_
                    refine .p rfl rfl (.pickT rfl rfl) ?_
                    refine .p rfl rfl (.as rfl) ?_
                    refine .nil (.code ?_)
                    refine .ret _ rfl ?_
                    first
                      | exact ⟨rfl, (by repeat (first | exact Ext.refl _ | assumption | refine Ext.trans (by assumption) ?_))⟩
                      | exact ⟨by rw [decide_eq_true ((p4.resolve_left (fun hh => c98 (by rw [hh]; rfl))).2)]; rfl, (by repeat (first | exact Ext.refl _ | assumption | refine Ext.trans (by assumption) ?_))⟩
                      | exact absurd (by have := (p4.resolve_left (fun hh => c98 (by rw [hh]; rfl))).1; omega) c103
                  · refine .p rfl rfl (.mv rfl) ?_
                    refine .p rfl rfl (.mv rfl) ?_
                    refine .p rfl rfl (.len rfl rfl) ?_
                    refine .p rfl rfl (.lt rfl rfl) ?_
                    refine .p rfl rfl (.mv rfl) ?_
                    refine .caseD 103 rfl (fun c103 => ?_) (fun c103 => ?_)
                    · refine .p rfl rfl (.mv rfl) ?_
                      refine .p rfl rfl (.mv rfl) ?_
                      refine .call (first := []) (captured := []) rfl rfl rfl rfl (texts_fn (allOf (tStrs.ext0 R78 (by repeat (first | exact Ext.refl _ | assumption | refine Ext.trans (by assumption) ?_)))) (allOf (tStrs.ext0 R37m (by repeat (first | exact Ext.refl _ | assumption | refine Ext.trans (by assumption) ?_))))) ?_
                      rintro _ w106 ⟨rfl, X106⟩
                      have z106 := X106.size
                      refine .p rfl rfl (.pickT rfl rfl) ?_
                      refine .p rfl rfl (.pickF rfl rfl) ?_
                      refine .p rfl rfl (.pickT rfl rfl) ?_
                      refine .p rfl rfl (.as rfl) ?_
                      refine .nil (.code ?_)
                      refine .ret _ rfl ?_
                      first
                        | exact ⟨rfl, (by repeat (first | exact Ext.refl _ | assumption | refine Ext.trans (by assumption) ?_))⟩
                        | exact ⟨by rw [decide_eq_true ((p4.resolve_left (fun hh => c98 (by rw [hh]; rfl))).2)]; rfl, (by repeat (first | exact Ext.refl _ | assumption | refine Ext.trans (by assumption) ?_))⟩
                        | exact absurd (by have := (p4.resolve_left (fun hh => c98 (by rw [hh]; rfl))).1; omega) c103
                    · refine .skip rfl rfl ?_
                      refine .skip rfl rfl ?_
                      refine .skip rfl rfl ?_
                      refine .p rfl rfl (.pickF rfl rfl) ?_
                      refine .p rfl rfl (.pickF rfl rfl) ?_
                      refine .p rfl rfl (.pickT rfl rfl) ?_
                      refine .p rfl rfl (.as rfl) ?_
                      refine .nil (.code ?_)
                      refine .ret _ rfl ?_
                      first
                        | exact ⟨rfl, (by repeat (first | exact Ext.refl _ | assumption | refine Ext.trans (by assumption) ?_))⟩
                        | exact ⟨by rw [decide_eq_true ((p4.resolve_left (fun hh => c98 (by rw [hh]; rfl))).2)]; rfl, (by repeat (first | exact Ext.refl _ | assumption | refine Ext.trans (by assumption) ?_))⟩
                        | exact absurd (by have := (p4.resolve_left (fun hh => c98 (by rw [hh]; rfl))).1; omega) c103
                · intro meet
                  refine .tree (fun k => w42.heap.size ≤ k) [4, 8, 9] (.op 0 (.op 1 (.op 2 (.op 3 (.alt 4 (.op 4 (.op 5 (.op 6 (.op 7 (.alt 8 (.op 8 (.alt 9 (.op 9 (.op 10 (.nil))) (.stop))) (.stop)))))) (.alt 8 (.op 8 (.alt 4 (.op 4 (.op 5 (.op 6 (.op 7 (.alt 9 (.op 9 (.op 10 (.nil))) (.stop)))))) (.stop))) (.stop))))))) (by kernel_rfl) (by kernel_rfl) (by kernel_rfl) ?_
                  refine .p rfl rfl rfl rfl (fun wx hx => .loadA (n := 3) rfl rfl rfl rfl rfl (B3w.ext hx (by show ¬ (w42.heap.size ≤ _); omega)).cells) ?_
                  refine .p rfl rfl rfl rfl (fun wx hx => .mv rfl) ?_
                  refine .p rfl rfl rfl rfl (fun wx hx => .mv rfl) ?_
                  refine .p rfl rfl rfl rfl (fun wx hx => .cast (.cutHi (s := 3) rfl rfl rfl rfl (by omega)) hv45) ?_
                  refine .alt ?_ ?_
                  · refine .call (first := []) (captured := []) rfl rfl rfl rfl rfl rfl (DoE_fn (d := d) (l := ((clearF d).1.take n.toNat).drop 0) (allOf (tDisk.ext (tDisk.ext0 R3 (by repeat (first | exact Ext.refl _ | assumption | refine Ext.trans (by assumption) ?_))) (Ext.refl _) (by intro k hk _ he; have he : w42.heap.size ≤ k := he; omega))) (allOf ((Sl tAct).ext ((Sl tAct).ext0 R45 (by repeat (first | exact Ext.refl _ | assumption | refine Ext.trans (by assumption) ?_))) (Ext.refl _) (by intro k hk _ he; have he : w42.heap.size ≤ k := he; omega)))) (by rintro _ _ ⟨_, _, _, _, _, _, hx⟩; exact (Ext.refl _).trans (hx.mono (fun _ _ h => h.elim))) ?_
                    rintro _ w67 ⟨v67, x67, e67, hx67, rfl, R67, X67⟩
                    have z67 := X67.size
                    obtain ⟨f67, g67, p67, q67, rfl⟩ := disk_shape R67
                    have hX67 : Ext (fun k => w42.heap.size ≤ k) _ _ := (Ext.refl _).trans (X67.mono (fun _ _ h => h.elim))
                    refine .p rfl rfl rfl rfl (fun wx hx => .mv rfl) ?_
                    refine .p rfl rfl rfl rfl (fun wx hx => .extract rfl rfl) ?_
                    refine .p rfl rfl rfl rfl (fun wx hx => .extract rfl rfl) ?_
                    refine .alt ?_ ?_
                    · refine .v rfl rfl rfl rfl (.alloc rfl rfl) (by rintro _ _ ⟨_, hN⟩; exact hX67.trans hN.ext0) ?_
                      rintro _ wa12 ⟨rfl, N12⟩
                      have z12 := N12.size
                      have hX12 : Ext (fun k => w42.heap.size ≤ k) _ _ := hX67.trans (N12.ext0)
                      refine .alt ?_ ?_
                      · refine .s rfl rfl rfl (.storeAll (n := 3) (E := 36) (cs := [i64 0, .slice none 0 0, .slice none 0 0]) rfl rfl rfl rfl rfl (by first | exact N12.blk | exact N12.blk.ext X67 (fun x => x)) rfl) (by intro wz hP; exact hX12.trans (hP.ext.mono (by rintro k _ rfl; show w42.heap.size ≤ _; omega))) ?_
                        intro wb12 P12
                        have hXs9 : Ext (fun k => w42.heap.size ≤ k) _ _ := hX12.trans (P12.ext.mono (by rintro k _ rfl; show w42.heap.size ≤ _; omega))
                        refine .p rfl rfl rfl rfl (fun wx hx => .as rfl) ?_
                        refine .nil ?_
                        have zb := P12.size
                        exact (meet (w67.heap.size, x67, e67, (f67, g67, p67, q67), wb12) ⟨P12.blk, allOf (tDisk.ext (tDisk.ext0 R67 N12.ext) P12.ext (fun k hk _ he => by have he : k = w67.heap.size := he; omega)), (Ext.refl w42).then hXs9 (fun k hk _ => hk), hx67, by show w67.heap.size < wb12.heap.size; omega⟩).of ⟨rfl, rfl, rfl, rfl, rfl, rfl, rfl, trivial⟩
                      exact .stop
                    exact .stop
                  refine .alt ?_ ?_
                  · refine .v rfl rfl rfl rfl (.alloc rfl rfl) (by rintro _ _ ⟨_, hN⟩; exact (Ext.refl _).trans hN.ext0) ?_
                    rintro _ wa12 ⟨rfl, N12⟩
                    have z12 := N12.size
                    have hX12 : Ext (fun k => w42.heap.size ≤ k) _ _ := (Ext.refl _).trans (N12.ext0)
                    refine .alt ?_ ?_
                    · refine .call (first := []) (captured := []) rfl rfl rfl rfl rfl rfl (DoE_fn (d := d) (l := ((clearF d).1.take n.toNat).drop 0) (allOf (tDisk.ext (tDisk.ext0 R3 (by repeat (first | exact Ext.refl _ | assumption | refine Ext.trans (by assumption) ?_))) hX12 (by intro k hk _ he; have he : w42.heap.size ≤ k := he; omega))) (allOf ((Sl tAct).ext ((Sl tAct).ext0 R45 (by repeat (first | exact Ext.refl _ | assumption | refine Ext.trans (by assumption) ?_))) hX12 (by intro k hk _ he; have he : w42.heap.size ≤ k := he; omega)))) (by rintro _ _ ⟨_, _, _, _, _, _, hx⟩; exact hX12.trans (hx.mono (fun _ _ h => h.elim))) ?_
                      rintro _ w67 ⟨v67, x67, e67, hx67, rfl, R67, X67⟩
                      have z67 := X67.size
                      obtain ⟨f67, g67, p67, q67, rfl⟩ := disk_shape R67
                      have hX67 : Ext (fun k => w42.heap.size ≤ k) _ _ := hX12.trans (X67.mono (fun _ _ h => h.elim))
                      refine .p rfl rfl rfl rfl (fun wx hx => .mv rfl) ?_
                      refine .p rfl rfl rfl rfl (fun wx hx => .extract rfl rfl) ?_
                      refine .p rfl rfl rfl rfl (fun wx hx => .extract rfl rfl) ?_
                      refine .alt ?_ ?_
                      · refine .s rfl rfl rfl (.storeAll (n := 3) (E := 36) (cs := [i64 0, .slice none 0 0, .slice none 0 0]) rfl rfl rfl rfl rfl (by first | exact N12.blk | exact N12.blk.ext X67 (fun x => x)) rfl) (by intro wz hP; exact hX67.trans (hP.ext.mono (by rintro k _ rfl; show w42.heap.size ≤ _; omega))) ?_
                        intro wb12 P12
                        have hXs9 : Ext (fun k => w42.heap.size ≤ k) _ _ := hX67.trans (P12.ext.mono (by rintro k _ rfl; show w42.heap.size ≤ _; omega))
                        refine .p rfl rfl rfl rfl (fun wx hx => .as rfl) ?_
                        refine .nil ?_
                        have zb := P12.size
                        exact (meet (w42.heap.size, x67, e67, (f67, g67, p67, q67), wb12) ⟨P12.blk, allOf (tDisk.ext (R67) P12.ext (fun k hk _ he => by have he : k = w42.heap.size := he; omega)), (Ext.refl w42).then hXs9 (fun k hk _ => hk), hx67, by show w42.heap.size < wb12.heap.size; omega⟩).of ⟨rfl, rfl, rfl, rfl, rfl, rfl, rfl, trivial⟩
                      exact .stop
                    exact .stop
                  exact .stop
end Go.Proofs.Ytapdacjpmmjlhaa
