
/-
  LogBack: walked.
-/
import Derived.Test.YtapdacjpmmjlhaaLaw05c
import Derived.Test.YtapdacjpmmjlhaaFrameO
import Derived.Test.YtapdacjpmmjlhaaAppK
set_option linter.unusedVariables false
set_option linter.unusedSimpArgs false
set_option maxRecDepth 20000
namespace Go.Proofs.Ytapdacjpmmjlhaa
open Go disk log
namespace log
theorem frame_err {E s p : UInt32} {r : Bs} (h : ¬ (frameF E s p r).2 = 0) : (frameF E s p r).1 = [] ∧ ((frameF E s p r).2 = 2 ↔ (E = 0 ∨ s = 0)) := by
  unfold frameF at *
  by_cases h1 : E = 0 ∨ s = 0
  · rw [if_pos h1]; exact ⟨rfl, fun _ => h1, fun _ => rfl⟩
  · rw [if_neg h1] at h ⊢
    by_cases h2 : 4096 < r.length
    · rw [if_pos h2]; exact ⟨rfl, fun h3 => absurd h3 (by decide), fun h3 => absurd h3 h1⟩
    · rw [if_neg h2] at h; exact absurd rfl h
theorem frame_okF {E s p : UInt32} {r : Bs} (h : (frameF E s p r).2 = 0) : ¬ E = 0 ∧ ¬ s = 0 ∧ r.length ≤ 4096 ∧ (frameF E s p r).1 = frameL E s p r := by
  unfold frameF at *
  by_cases h1 : E = 0 ∨ s = 0
  · rw [if_pos h1] at h; cases h
  · rw [if_neg h1] at h ⊢
    by_cases h2 : 4096 < r.length
    · rw [if_pos h2] at h; cases h
    · rw [if_neg h2]; exact ⟨fun e => h1 (.inl e), fun e => h1 (.inr e), by omega, rfl⟩
theorem open_other {E s p E' p' : UInt32} {r : Bs} (h : ¬ (E' = E ∧ p' = p)) : (openF E' p' (frameL E s p r)).2.2.1 = 0 := by
  refine Decidable.byContradiction (fun hh => ?_)
  obtain ⟨r', s', h1, hE, hs, hr, hf, ht⟩ := open_some hh
  have hn := needs_pos r.length
  have hn' := needs_pos r'.length
  have a1 := secAt_frame E s p r (needs r.length) (needs r.length) 0 (by omega)
  have a2 := secAt_frame E' s' p' r' (needs r'.length) (needs r'.length) 0 (by omega)
  have e : secAt (frameL E s p r) 0 = secAt (frameL E' s' p' r') 0 := by
    rw [← ht]
    unfold secAt
    rw [List.drop_take, List.take_take, Nat.min_eq_left (by omega)]
  have e2 : sectorOf E s p r (needs r.length) 0 = sectorOf E' s' p' r' (needs r'.length) 0 := a1.symm.trans (e.trans a2)
  have b1 := congrArg get4 e2
  rw [sector_epoch, sector_epoch] at b1
  have b2 := congrArg (fun l => get4 (l.drop 8)) e2
  simp only [sector_prev] at b2
  exact h ⟨b1.symm, b2.symm⟩
theorem succ_ne (p : UInt32) : ¬ p + 1 = p := by
  intro h
  have h1 := congrArg UInt32.toNat h
  rw [UInt32.toNat_add] at h1
  have h2 := p.toNat_lt
  have h3 : (1 : UInt32).toNat = 1 := rfl
  rw [h3] at h1
  omega
end log
theorem LogBack_fn {w : World} {vb : Value} {epoch salt prev : UInt32} {record rest : Bs} (hr : record.length < Lim) (hb : tBytes.rep All w vb rest) : Fn Try.prog 5 [u32 epoch, u32 salt, u32 prev, str record, vb] w (fun r w2 => r = .bool true ∧ Ext (fun _ => False) w w2) := by
  obtain ⟨ab, cb, rfl, hcb⟩ := Sl.val hb
  have hlb := Sl.lim hb
  simp only [Lim] at hr hlb
  refine Fn.enter (fun w => Try.call5 _ w) Try.func5 rfl ?_
  refine .seq (.region ?_)
  refine .p rfl rfl (.as rfl) ?_
  refine .nil (.code (.seq (.keep [(0, _), (1, _), (2, _), (3, _), (4, _)] ⟨rfl, rfl, rfl, rfl, rfl, trivial⟩ (.region ?_))))
  refine .call (first := []) (captured := []) rfl rfl rfl rfl (alive_fn) ?_
  rintro _ w23 ⟨rfl, X23⟩
  have z23 := X23.size
  refine .p rfl rfl (.as rfl) ?_
  refine .nil (.code (.seq (.seq (.keep [(11, _), (0, _), (1, _), (2, _), (3, _), (4, _)] ⟨rfl, rfl, rfl, rfl, rfl, rfl, trivial⟩ (.region ?_)))))
  refine .p rfl rfl (.mv rfl) ?_
  refine .p rfl rfl (.not rfl) ?_
  refine .nil (.code (.keep [(25, _), (11, _), (0, _), (1, _), (2, _), (3, _), (4, _)] ⟨rfl, rfl, rfl, rfl, rfl, rfl, rfl, trivial⟩ (.condF rfl (.skip (.code (.seq (.seq (.keep [(11, _), (0, _), (1, _), (2, _), (3, _), (4, _)] ⟨rfl, rfl, rfl, rfl, rfl, rfl, trivial⟩ (.region ?_)))))))))
  refine .p rfl rfl (.mv rfl) ?_
  refine .p rfl rfl (.lenS rfl rfl) ?_
  refine .p rfl rfl (.gt rfl rfl) ?_
  refine .p rfl rfl (.mv rfl) ?_
  refine .caseD 29 rfl (fun c29 => ?_) (fun c29 => ?_)
  · refine .skip rfl rfl ?_
    refine .skip rfl rfl ?_
    refine .skip rfl rfl ?_
    refine .p rfl rfl (.pickT rfl rfl) ?_
    refine .nil (.code (.keep [(33, _), (11, _), (0, _), (1, _), (2, _), (3, _), (4, _)] ⟨rfl, rfl, rfl, rfl, rfl, rfl, rfl, trivial⟩ (.condT rfl (.seq (.keep [(11, _)] ⟨rfl, trivial⟩ (.region ?_))))))
    refine .p rfl rfl (.mv rfl) ?_
    refine .p rfl rfl (.as rfl) ?_
    refine .nil (.code ?_)
    refine .ret _ rfl ?_
    exact ⟨rfl, (by repeat (first | exact Ext.refl _ | assumption | refine Ext.trans (by assumption) ?_))⟩
  · refine .p rfl rfl (.mv rfl) ?_
    refine .p rfl rfl (.len rfl rfl) ?_
    refine .p rfl rfl (.gt rfl rfl) ?_
    refine .p rfl rfl (.pickF rfl rfl) ?_
    refine .nil (.code (.keep [(33, _), (11, _), (0, _), (1, _), (2, _), (3, _), (4, _)] ⟨rfl, rfl, rfl, rfl, rfl, rfl, rfl, trivial⟩ ?_))
    refine .condD rfl (fun c33 => ?_) (fun c33 => ?_)
    · refine .seq (.keep [(11, _)] ⟨rfl, trivial⟩ (.region ?_))
      refine .p rfl rfl (.mv rfl) ?_
      refine .p rfl rfl (.as rfl) ?_
      refine .nil (.code ?_)
      refine .ret _ rfl ?_
      exact ⟨rfl, (by repeat (first | exact Ext.refl _ | assumption | refine Ext.trans (by assumption) ?_))⟩
    · refine .skip (.code (.seq (.keep [(11, _), (0, _), (1, _), (2, _), (3, _), (4, _)] ⟨rfl, rfl, rfl, rfl, rfl, rfl, trivial⟩ (.region ?_))))
      refine .p rfl rfl (.mv rfl) ?_
      refine .p rfl rfl (.mv rfl) ?_
      refine .p rfl rfl (.mv rfl) ?_
      refine .p rfl rfl (.mv rfl) ?_
      refine .call (first := []) (captured := []) rfl rfl rfl rfl (FrameO_fn (by simp only [Lim]; omega)) ?_
      rintro _ w40 ⟨s40, rfl, b40, O40, hb40, X40⟩
      have z40 := X40.size
      obtain ⟨a40, c40, rfl, hc40⟩ := O40.val
      refine .p rfl rfl (.mv rfl) ?_
      refine .p rfl rfl (.extract rfl rfl) ?_
      refine .p rfl rfl (.extract rfl rfl) ?_
      refine .p rfl rfl (.as rfl) ?_
      refine .p rfl rfl (.as rfl) ?_
      refine .nil (.code (.seq (.seq (.keep [(13, _), (12, _), (11, _), (0, _), (1, _), (2, _), (3, _), (4, _)] ⟨rfl, rfl, rfl, rfl, rfl, rfl, rfl, rfl, trivial⟩ (.region ?_)))))
      refine .p rfl rfl (.mv rfl) ?_
      refine .p rfl rfl (.ne rfl rfl) ?_
      refine .nil (.code (.keep [(44, _), (13, _), (12, _), (11, _), (0, _), (1, _), (2, _), (3, _), (4, _)] ⟨rfl, rfl, rfl, rfl, rfl, rfl, rfl, rfl, rfl, trivial⟩ ?_))
      refine .condD rfl (fun c44 => ?_) (fun c44 => ?_)
      · refine .seq (.keep [(13, _), (12, _), (11, _), (0, _), (1, _)] ⟨rfl, rfl, rfl, rfl, rfl, trivial⟩ (.region ?_))
        refine .p rfl rfl (.mv rfl) ?_
        refine .p rfl rfl (.mv rfl) ?_
        refine .p rfl rfl (.mv rfl) ?_
        refine .p rfl rfl (.len rfl rfl) ?_
        refine .p rfl rfl (.yes (.eq rfl rfl) (by rw [(frame_err c44).1]; rfl)) ?_
        refine .p rfl rfl (.pickT rfl rfl) ?_
        refine .p rfl rfl (.mv rfl) ?_
        refine .p rfl rfl (.mv rfl) ?_
        refine .p rfl rfl (.eq rfl rfl) ?_
        refine .p rfl rfl (.mv rfl) ?_
        refine .p rfl rfl (.eq rfl rfl) ?_
        refine .p rfl rfl (.mv rfl) ?_
        refine .caseD 56 rfl (fun c56 => ?_) (fun c56 => ?_)
        · have hf4 : (frameF epoch salt prev record).2 = 2 := (frame_err c44).2.2 (.inl ((u32_zero _).1 c56))
          refine .skip rfl rfl ?_
          refine .skip rfl rfl ?_
          refine .p rfl rfl (.pickT rfl rfl) ?_
          refine .p rfl rfl (.cast (.eqB rfl rfl rfl) (show _ = Value.bool true from congrArg Value.bool (by first | (rw [decide_eq_true hf4]; rfl) | simp [hf3]))) ?_
          refine .p rfl rfl (.pickT rfl rfl) ?_
          refine .p rfl rfl (.as rfl) ?_
          refine .nil (.code ?_)
          refine .ret _ rfl ?_
          exact ⟨rfl, (by repeat (first | exact Ext.refl _ | assumption | refine Ext.trans (by assumption) ?_))⟩
        · have hf3 : (frameF epoch salt prev record).2 = 2 ↔ (salt.toNat : Int) = 0 := ⟨fun hh => (u32_zero _).2 (((frame_err c44).2.1 hh).resolve_left (fun e => c56 ((u32_zero _).2 e))), fun hh => (frame_err c44).2.2 (.inr ((u32_zero _).1 hh))⟩
          refine .p rfl rfl (.mv rfl) ?_
          refine .p rfl rfl (.eq rfl rfl) ?_
          refine .p rfl rfl (.pickF rfl rfl) ?_
          refine .p rfl rfl (.cast (.eqB rfl rfl rfl) (show _ = Value.bool true from congrArg Value.bool (by first | (rw [decide_eq_true hf4]; rfl) | simp [hf3]))) ?_
          refine .p rfl rfl (.pickT rfl rfl) ?_
          refine .p rfl rfl (.as rfl) ?_
          refine .nil (.code ?_)
          refine .ret _ rfl ?_
          exact ⟨rfl, (by repeat (first | exact Ext.refl _ | assumption | refine Ext.trans (by assumption) ?_))⟩
      · have hok : (frameF epoch salt prev record).2 = 0 := Decidable.byContradiction c44
        obtain ⟨hE, hs, hr4, hfl⟩ := frame_okF hok
        have hn := needs_bd hr4
        rw [hfl] at O40 ⊢
        refine .skip (.code (.seq (.keep [(12, _), (11, _), (0, _), (1, _), (2, _), (3, _), (4, _)] ⟨rfl, rfl, rfl, rfl, rfl, rfl, rfl, trivial⟩ (.region ?_))))
        refine .p rfl rfl (.mv rfl) ?_
        refine .p rfl rfl (.mv rfl) ?_
        refine .p rfl rfl (.mv rfl) ?_
        refine .p rfl rfl (.mv rfl) ?_
        refine .v rfl rfl (.appendK (t := tByte) (eb := 1) rfl O40 rfl (Sl.holds (tBytes.ext0 hb (by repeat (first | exact Ext.refl _ | assumption | refine Ext.trans (by assumption) ?_))) (fun _ _ h => h)) rfl rfl rfl rfl rfl rfl rfl (by rw [frameL_length]; omega) (by rw [frameL_length]; simp only [Lim]; omega) (fun _ h _ => h.elim)) ?_
        rintro v67 w67 ⟨b67, O67, X67, hb67, K67⟩
        have R40 : tBytes.rep All w67 _ (frameL epoch salt prev record) := K67 All trivial (fun _ h => h.elim)
        have R67 : tBytes.rep All w67 v67 (frameL epoch salt prev record ++ rest) := O67.rep trivial (fun _ h _ => h.1.elim)
        have Y67 : Ext (fun _ => False) w23 w67 := X40.then X67 (by rintro k rfl _; omega)
        have z67 := Y67.size
        clear X40 X67 K67 O67
        refine .call (first := []) (captured := []) rfl rfl rfl rfl (Open_fn R67) ?_
        rintro _ w68 ⟨rfl, X68⟩
        rw [open_frame hE hs hr4]
        refine .p rfl rfl (.mv rfl) ?_
        refine .p rfl rfl (.cast (.extract rfl rfl) (show _ = str record from rfl)) ?_
        refine .p rfl rfl (.cast (.extract rfl rfl) (show _ = u32 salt from rfl)) ?_
        refine .p rfl rfl (.cast (.extract rfl rfl) (show _ = i64 ((needs record.length : Nat) : Int) from rfl)) ?_
        refine .p rfl rfl (.cast (.extract rfl rfl) (show _ = i64 0 from rfl)) ?_
        refine .p rfl rfl (.as rfl) ?_
        refine .p rfl rfl (.as rfl) ?_
        refine .p rfl rfl (.as rfl) ?_
        refine .p rfl rfl (.as rfl) ?_
        refine .nil (.code (.seq (.keep [(17, _), (16, _), (15, _), (14, _), (12, _), (11, _), (0, _), (1, _), (2, _), (3, _)] ⟨rfl, rfl, rfl, rfl, rfl, rfl, rfl, rfl, rfl, rfl, trivial⟩ (.region ?_))))
        refine .p rfl rfl (.mv rfl) ?_
        refine .p rfl rfl (.mv rfl) ?_
        refine .p rfl rfl (.add32 (b := 1) rfl rfl) ?_
        refine .p rfl rfl (.mv rfl) ?_
        refine .call (first := []) (captured := []) rfl rfl rfl rfl (Open_fn (tBytes.ext0 R40 (by repeat (first | exact Ext.refl _ | assumption | refine Ext.trans (by assumption) ?_)))) ?_
        rintro _ w78 ⟨rfl, X78⟩
        refine .p rfl rfl (.mv rfl) ?_
        refine .p rfl rfl (.extract rfl rfl) ?_
        refine .p rfl rfl (.extract rfl rfl) ?_
        refine .p rfl rfl (.extract rfl rfl) ?_
        refine .p rfl rfl (.extract rfl rfl) ?_
        refine .p rfl rfl (.as rfl) ?_
        refine .p rfl rfl (.as rfl) ?_
        refine .p rfl rfl (.as rfl) ?_
        refine .p rfl rfl (.as rfl) ?_
        refine .nil (.code (.seq (.keep [(20, _), (17, _), (16, _), (15, _), (14, _), (12, _), (11, _), (0, _), (1, _), (2, _), (3, _)] ⟨rfl, rfl, rfl, rfl, rfl, rfl, rfl, rfl, rfl, rfl, rfl, trivial⟩ (.region ?_))))
        refine .p rfl rfl (.as rfl) ?_
        refine .nil (.code (.seq (.seq (.region ?_))))
        refine .p rfl rfl (.mv rfl) ?_
        refine .p rfl rfl (.add32 (b := 1) rfl rfl) ?_
        refine .p rfl rfl (.ne rfl rfl) ?_
        refine .nil (.code (.keep [(85, _), (22, _), (20, _), (17, _), (16, _), (15, _), (14, _), (12, _), (11, _), (0, _), (1, _), (2, _), (3, _)] ⟨rfl, rfl, rfl, rfl, rfl, rfl, rfl, rfl, rfl, rfl, rfl, rfl, rfl, trivial⟩ ?_))
        refine .condD rfl (fun c85 => ?_) (fun c85 => ?_)
        · refine .keep [(20, _), (17, _), (16, _), (15, _), (14, _), (12, _), (11, _), (0, _), (1, _), (2, _), (3, _)] ⟨rfl, rfl, rfl, rfl, rfl, rfl, rfl, rfl, rfl, rfl, rfl, trivial⟩ (.region ?_)
          refine .p rfl rfl (.mv rfl) ?_
          refine .p rfl rfl (.add32 (b := 1) rfl rfl) ?_
          refine .p rfl rfl (.mv rfl) ?_
          refine .p rfl rfl (.mv rfl) ?_
          refine .call (first := []) (captured := []) rfl rfl rfl rfl (Open_fn (tBytes.ext0 R40 (by repeat (first | exact Ext.refl _ | assumption | refine Ext.trans (by assumption) ?_)))) ?_
          rintro _ w91 ⟨rfl, X91⟩
          have hot2 : (openF (epoch + 1) prev (frameL epoch salt prev record)).2.2.1 = 0 := open_other (fun h => succ_ne _ h.1)
          refine .p rfl rfl (.mv rfl) ?_
          refine .p rfl rfl (.extract rfl rfl) ?_
          refine .p rfl rfl (.extract rfl rfl) ?_
          refine .p rfl rfl (.extract rfl rfl) ?_
          refine .p rfl rfl (.extract rfl rfl) ?_
          refine .p rfl rfl (.as rfl) ?_
          refine .nil (.code (.seq (.keep [(22, _), (20, _), (17, _), (16, _), (15, _), (14, _), (12, _), (11, _), (1, _), (3, _)] ⟨rfl, rfl, rfl, rfl, rfl, rfl, rfl, rfl, rfl, rfl, trivial⟩ (.region ?_))))
          refine .p rfl rfl (.mv rfl) ?_
          refine .p rfl rfl (.mv rfl) ?_
          refine .p rfl rfl (.mv rfl) ?_
          refine .p rfl rfl (.yes (.eq rfl rfl) (rfl)) ?_
          refine .p rfl rfl (.pickT rfl rfl) ?_
          refine .p rfl rfl (.mv rfl) ?_
          refine .p rfl rfl (.mv rfl) ?_
          refine .p rfl rfl (.mv rfl) ?_
          refine .p rfl rfl (.yes (.eqS rfl rfl) (rfl)) ?_
          refine .p rfl rfl (.pickT rfl rfl) ?_
          refine .p rfl rfl (.mv rfl) ?_
          refine .p rfl rfl (.mv rfl) ?_
          refine .p rfl rfl (.mv rfl) ?_
          refine .p rfl rfl (.yes (.eq rfl rfl) (rfl)) ?_
          refine .p rfl rfl (.pickT rfl rfl) ?_
          refine .p rfl rfl (.mv rfl) ?_
          refine .p rfl rfl (.mv rfl) ?_
          refine .p rfl rfl (.mul rfl rfl (by omega)) ?_
          refine .p rfl rfl (.mv rfl) ?_
          refine .p rfl rfl (.len rfl rfl) ?_
          refine .p rfl rfl (.yes (.eq rfl rfl) (by rw [frameL_length]; rfl)) ?_
          refine .p rfl rfl (.pickT rfl rfl) ?_
          refine .p rfl rfl (.mv rfl) ?_
          refine .p rfl rfl (.mv rfl) ?_
          refine .p rfl rfl (.yes (.eq rfl rfl) (by rw [open_other (fun h => succ_ne _ h.2)]; rfl)) ?_
          refine .p rfl rfl (.pickT rfl rfl) ?_
          refine .p rfl rfl (.mv rfl) ?_
          refine .p rfl rfl (.mv rfl) ?_
          refine .p rfl rfl (.yes (.eq rfl rfl) (by first | (rw [hot2]; rfl) | rfl)) ?_
          refine .p rfl rfl (.pickT rfl rfl) ?_
          refine .p rfl rfl (.as rfl) ?_
          refine .nil (.code ?_)
          refine .ret _ rfl ?_
          exact ⟨rfl, (by repeat (first | exact Ext.refl _ | assumption | refine Ext.trans (by assumption) ?_))⟩
        · refine .skip (.code (.seq (.keep [(22, _), (20, _), (17, _), (16, _), (15, _), (14, _), (12, _), (11, _), (1, _), (3, _)] ⟨rfl, rfl, rfl, rfl, rfl, rfl, rfl, rfl, rfl, rfl, trivial⟩ (.region ?_))))
          refine .p rfl rfl (.mv rfl) ?_
          refine .p rfl rfl (.mv rfl) ?_
          refine .p rfl rfl (.mv rfl) ?_
          refine .p rfl rfl (.yes (.eq rfl rfl) (rfl)) ?_
          refine .p rfl rfl (.pickT rfl rfl) ?_
          refine .p rfl rfl (.mv rfl) ?_
          refine .p rfl rfl (.mv rfl) ?_
          refine .p rfl rfl (.mv rfl) ?_
          refine .p rfl rfl (.yes (.eqS rfl rfl) (rfl)) ?_
          refine .p rfl rfl (.pickT rfl rfl) ?_
          refine .p rfl rfl (.mv rfl) ?_
          refine .p rfl rfl (.mv rfl) ?_
          refine .p rfl rfl (.mv rfl) ?_
          refine .p rfl rfl (.yes (.eq rfl rfl) (rfl)) ?_
          refine .p rfl rfl (.pickT rfl rfl) ?_
          refine .p rfl rfl (.mv rfl) ?_
          refine .p rfl rfl (.mv rfl) ?_
          refine .p rfl rfl (.mul rfl rfl (by omega)) ?_
          refine .p rfl rfl (.mv rfl) ?_
          refine .p rfl rfl (.len rfl rfl) ?_
          refine .p rfl rfl (.yes (.eq rfl rfl) (by rw [frameL_length]; rfl)) ?_
          refine .p rfl rfl (.pickT rfl rfl) ?_
          refine .p rfl rfl (.mv rfl) ?_
          refine .p rfl rfl (.mv rfl) ?_
          refine .p rfl rfl (.yes (.eq rfl rfl) (by rw [open_other (fun h => succ_ne _ h.2)]; rfl)) ?_
          refine .p rfl rfl (.pickT rfl rfl) ?_
          refine .p rfl rfl (.mv rfl) ?_
          refine .p rfl rfl (.mv rfl) ?_
          refine .p rfl rfl (.yes (.eq rfl rfl) (by first | (rw [hot2]; rfl) | rfl)) ?_
          refine .p rfl rfl (.pickT rfl rfl) ?_
          refine .p rfl rfl (.as rfl) ?_
          refine .nil (.code ?_)
          refine .ret _ rfl ?_
          exact ⟨rfl, (by repeat (first | exact Ext.refl _ | assumption | refine Ext.trans (by assumption) ?_))⟩
end Go.Proofs.Ytapdacjpmmjlhaa
