
/-
  Package log: a record read out of sectors.
-/
import Derived.Test.YtapdacjpmmjlhaaLog1
import Derived.Test.YtapdacjpmmjlhaaLogLaw
import Derived.Test.YtapdacjpmmjlhaaEqual
set_option linter.unusedVariables false
set_option linter.unusedSimpArgs false
set_option maxRecDepth 20000
namespace Go.Proofs.Ytapdacjpmmjlhaa
open Go log
theorem Open_fn {w : World} {v : Value} {epoch prev : UInt32} {b : Bs} (h : tBytes.rep All w v b) : Fn Try.prog 13 [u32 epoch, u32 prev, v] w (fun r w2 => r = .tuple #[str (openF epoch prev b).1, u32 (openF epoch prev b).2.1, i64 (openF epoch prev b).2.2.1, i64 (openF epoch prev b).2.2.2] ∧ Ext (fun _ => False) w w2) := by
  obtain ⟨a, cap, rfl, hcap⟩ := Sl.val h
  have hlim := Sl.lim h
  simp only [Lim] at hlim
  refine Fn.enter (fun w => Try.call13 _ w) Try.func13 rfl ?_
  refine .seq (.region ?_)
  refine .p rfl rfl (.as rfl) ?_
  refine .p rfl rfl (.as rfl) ?_
  refine .p rfl rfl (.as rfl) ?_
  refine .p rfl rfl (.as rfl) ?_
  refine .nil (.code (.seq (.seq (.keep [(0, _), (1, _), (2, _)] ⟨rfl, rfl, rfl, trivial⟩ (.region ?_)))))
  refine .p rfl rfl (.mv rfl) ?_
  refine .p rfl rfl (.eq rfl rfl) ?_
  refine .nil (.code (.keep [(16, _), (0, _), (1, _), (2, _)] ⟨rfl, rfl, rfl, rfl, trivial⟩ ?_))
  refine .condD rfl (fun c16 => ?_) (fun c16 => ?_)
  · refine .seq (.keep [] trivial (.region ?_))
    refine .p rfl rfl (.as rfl) ?_
    refine .p rfl rfl (.as rfl) ?_
    refine .p rfl rfl (.as rfl) ?_
    refine .p rfl rfl (.as rfl) ?_
    refine .nil (.code ?_)
    refine .ret _ rfl ?_
    have e : openF epoch prev b = ([], 0, 0, 2) := by unfold openF; rw [if_pos ((u32_zero _).1 c16)]
    rw [e]
    exact ⟨rfl, .refl _⟩
  · refine .skip (.code (.seq (.seq (.keep [(0, _), (1, _), (2, _)] ⟨rfl, rfl, rfl, trivial⟩ (.region ?_)))))
    refine .p rfl rfl (.mv rfl) ?_
    refine .p rfl rfl (.len rfl rfl) ?_
    refine .p rfl rfl (.lt rfl rfl) ?_
    refine .nil (.code (.keep [(19, _), (0, _), (1, _), (2, _)] ⟨rfl, rfl, rfl, rfl, trivial⟩ ?_))
    refine .condD rfl (fun c19 => ?_) (fun c19 => ?_)
    · refine .seq (.keep [] trivial (.region ?_))
      refine .p rfl rfl (.as rfl) ?_
      refine .p rfl rfl (.as rfl) ?_
      refine .p rfl rfl (.as rfl) ?_
      refine .p rfl rfl (.as rfl) ?_
      refine .nil (.code ?_)
      refine .ret _ rfl ?_
      have e : openF epoch prev b = ([], 0, 0, 0) := by unfold openF; rw [if_neg (fun e => c16 ((u32_zero _).2 e)), if_pos (by omega)]
      rw [e]
      exact ⟨rfl, .refl _⟩
    · have hE : ¬ epoch = 0 := fun e => c16 ((u32_zero _).2 e)
      have hL : ¬ b.length < 128 := by omega
      obtain ⟨b13, o13, rfl, _, hc13⟩ := Sl.byteAt h (k := 13) (by omega)
      obtain ⟨n, hn⟩ : ∃ n, n = b[13].toNat := ⟨_, rfl⟩
      have h13 : (b.getD 13 0).toNat = n := by rw [hn, List.getD, List.getElem?_eq_getElem (by omega)]; rfl
      have hn256 : n < 256 := by have := b[13].toNat_lt; omega
      refine .skip (.code (.seq (.keep [(0, _), (1, _), (2, _)] ⟨rfl, rfl, rfl, trivial⟩ (.region ?_))))
      refine .p rfl rfl (.mv rfl) ?_
      refine .p rfl rfl (.indexAddr1 rfl rfl rfl rfl (by omega)) ?_
      refine .p rfl rfl (.load rfl rfl rfl hc13) ?_
      refine .p rfl rfl (.cast (.conv8_i rfl rfl rfl) (by show i64 (b[13].toNat : Int) = i64 (n : Int); rw [hn])) ?_
      refine .p rfl rfl (.as rfl) ?_
      refine .nil (.code (.seq (.seq (.keep [(10, _), (0, _), (1, _), (2, _)] ⟨rfl, rfl, rfl, rfl, trivial⟩ (.region ?_)))))
      refine .p rfl rfl (.mv rfl) ?_
      refine .p rfl rfl (.eq rfl rfl) ?_
      refine .p rfl rfl (.mv rfl) ?_
      refine .caseD 26 rfl (fun c26 => ?_) (fun c26 => ?_)
      · refine .skip rfl rfl ?_
        refine .skip rfl rfl ?_
        refine .skip rfl rfl ?_
        refine .skip rfl rfl ?_
        refine .skip rfl rfl ?_
        refine .p rfl rfl (.pickT rfl rfl) ?_
        refine .nil (.code (.keep [(32, _), (10, _), (0, _), (1, _), (2, _)] ⟨rfl, rfl, rfl, rfl, rfl, trivial⟩ (.condT rfl (.seq (.keep [] trivial (.region ?_))))))
        refine .p rfl rfl (.as rfl) ?_
        refine .p rfl rfl (.as rfl) ?_
        refine .p rfl rfl (.as rfl) ?_
        refine .p rfl rfl (.as rfl) ?_
        refine .nil (.code ?_)
        refine .ret _ rfl ?_
        have e : openF epoch prev b = ([], 0, 0, 0) := by unfold openF; rw [if_neg hE, if_neg hL, if_pos (by rw [h13]; omega)]
        rw [e]
        exact ⟨rfl, .refl _⟩
      · refine .p rfl rfl (.mv rfl) ?_
        refine .p rfl rfl (.mul rfl rfl (by omega)) ?_
        refine .p rfl rfl (.mv rfl) ?_
        refine .p rfl rfl (.len rfl rfl) ?_
        refine .p rfl rfl (.gt rfl rfl) ?_
        refine .p rfl rfl (.pickF rfl rfl) ?_
        refine .nil (.code (.keep [(32, _), (10, _), (0, _), (1, _), (2, _)] ⟨rfl, rfl, rfl, rfl, rfl, trivial⟩ ?_))
        refine .condD rfl (fun c32 => ?_) (fun c32 => ?_)
        · refine .seq (.keep [] trivial (.region ?_))
          refine .p rfl rfl (.as rfl) ?_
          refine .p rfl rfl (.as rfl) ?_
          refine .p rfl rfl (.as rfl) ?_
          refine .p rfl rfl (.as rfl) ?_
          refine .nil (.code ?_)
          refine .ret _ rfl ?_
          have e : openF epoch prev b = ([], 0, 0, 0) := by unfold openF; rw [if_neg hE, if_neg hL, if_pos (by rw [h13]; omega)]
          rw [e]
          exact ⟨rfl, .refl _⟩
        · have hnb : n * 128 ≤ b.length := by omega
          have hn1 : 1 ≤ n := by omega
          have hN : ¬ ((b.getD 13 0).toNat = 0 ∨ b.length < (b.getD 13 0).toNat * 128) := by rw [h13]; omega
          obtain ⟨a2, cap2, hv36, hc36, R36⟩ := Sl.cutE h 0 (n * 128) (by omega) (by omega)
          simp only [Nat.sub_zero, List.drop_zero] at hv36 hc36 R36
          refine .skip (.code (.seq (.keep [(10, _), (0, _), (1, _), (2, _)] ⟨rfl, rfl, rfl, rfl, trivial⟩ (.region ?_))))
          refine .p rfl rfl (.mv rfl) ?_
          refine .p rfl rfl (.mv rfl) ?_
          refine .p rfl rfl (.mul rfl rfl (by omega)) ?_
          refine .p rfl rfl (.cast (.cutHi (s := 1) rfl rfl rfl rfl (by omega)) (by show cutV 1 (some ⟨b13, o13, none⟩) cap 0 ((n : Int) * 128).toNat = .slice a2 (n * 128) cap2; rw [show ((n : Int) * 128).toNat = n * 128 by omega]; exact hv36)) ?_
          refine .p rfl rfl (.as rfl) ?_
          refine .nil (.code (.seq (.keep [(2, _), (10, _), (0, _), (1, _)] ⟨rfl, rfl, rfl, rfl, trivial⟩ (.region ?_))))
          refine .p rfl rfl (.as rfl) ?_
          refine .nil (.code (.seq (.seq (.region ?_))))
          refine .p rfl rfl (.mv rfl) ?_
          refine .p rfl rfl (.mv rfl) ?_
          refine .nil (.code (.block ?_))
          refine .loop (S := Nat × World × Value × Nat) (fun s => [(38, i64 s.1), (37, i64 n), (2, .slice a2 (n * 128) cap2), (11, s.2.2.1), (0, u32 epoch), (1, u32 prev), (10, i64 n)]) (fun s => s.2.1) (fun s => s.1 ≤ n ∧ Own tByte (fun _ => False) 5 s.2.1 s.2.2.1 (textTo b s.1) s.2.2.2 ∧ Ext (fun _ => False) w s.2.1 ∧ w.heap.size ≤ s.2.2.2) (fun s => n - s.1) (0, w, .slice none 0 0, w.heap.size) ⟨rfl, rfl, rfl, rfl, rfl, rfl, rfl, trivial⟩ rfl ⟨Nat.zero_le _, Own.nil, .refl _, Nat.le_refl _⟩ ?_
          rintro ⟨i, wi, vo, bo'⟩ J ⟨hi, hO, hX, hbo⟩ again
          simp only at hi hO hX hbo
          change G _ [(38, i64 i), (37, i64 n), (2, .slice a2 (n * 128) cap2), (11, vo), (0, u32 epoch), (1, u32 prev), (10, i64 n)] _ _ wi
          refine .seq (.region ?_)
          refine .p rfl rfl (.lt rfl rfl) ?_
          refine .nil (.code (.seq ?_))
          refine .condD rfl (fun c39 => ?_) (fun c39 => ?_)
          · have hin : i < n := by omega
            obtain ⟨a3, cap3, hv44, hc44, R44⟩ := Sl.cutE (tBytes.ext0 R36 hX) (i * 128) (n * 128) (by omega) (by omega)
            obtain ⟨a4, cap4, hv45, hc45, R45⟩ := Sl.cutE R44 0 128 (by omega) (by omega)
            rw [secAt_eq hin hnb] at R45
            simp only [Nat.sub_zero] at hv45 R45 hc45
            have hsl := secAt_length hin hnb
            obtain ⟨bb, bo, rfl, _, hc14⟩ := Sl.byteAt R45 (k := 14) (by omega)
            have hcut : cutOf (secAt b i) = min (secAt b i)[14].toNat 112 := by rw [cutOf, List.getD, List.getElem?_eq_getElem (by omega)]; rfl
            have hcl := cutOf_le (secAt b i)
            have hq : (16 + min ((secAt b i)[14].toNat : Int) 112).toNat = 16 + cutOf (secAt b i) := by rw [hcut]; omega
            have h14l := (secAt b i)[14].toNat_lt
            obtain ⟨a5, cap5, hv54, hc54, R54⟩ := Sl.cutE R45 16 (16 + cutOf (secAt b i)) (by omega) (by omega)
            rw [List.drop_take] at R54
            rw [Nat.add_sub_cancel_left] at R54 hv54
            refine .skip (.code (.seq (.block (.seq (.keep [(38, _), (37, _), (2, _), (11, _), (0, _), (1, _), (10, _)] ⟨rfl, rfl, rfl, rfl, rfl, rfl, rfl, trivial⟩ (.region ?_))))))
            refine .p rfl rfl (.mv rfl) ?_
            refine .p rfl rfl (.as rfl) ?_
            refine .nil (.code (.seq (.keep [(12, _), (38, _), (37, _), (2, _), (11, _), (0, _), (1, _), (10, _)] ⟨rfl, rfl, rfl, rfl, rfl, rfl, rfl, rfl, trivial⟩ (.region ?_))))
            refine .p rfl rfl (.mv rfl) ?_
            refine .p rfl rfl (.mv rfl) ?_
            refine .p rfl rfl (.mul rfl rfl (by omega)) ?_
            refine .p rfl rfl (.cast (.cutLo (s := 1) rfl rfl rfl rfl (by omega)) (by show cutV 1 a2 cap2 ((i : Int) * 128).toNat (n * 128) = .slice a3 (n * 128 - i * 128) cap3; rw [show ((i : Int) * 128).toNat = i * 128 by omega]; exact hv44)) ?_
            refine .p rfl rfl (.cast (.cutHi (s := 1) rfl rfl rfl rfl (by omega)) hv45) ?_
            refine .p rfl rfl (.as rfl) ?_
            refine .nil (.code (.keep [(13, _), (38, _), (37, _), (2, _), (11, _), (0, _), (1, _), (10, _)] ⟨rfl, rfl, rfl, rfl, rfl, rfl, rfl, rfl, trivial⟩ (.region ?_)))
            refine .p rfl rfl (.mv rfl) ?_
            refine .p rfl rfl (.mv rfl) ?_
            refine .p rfl rfl (.mv rfl) ?_
            refine .p rfl rfl (.indexAddr1 rfl rfl rfl rfl (by omega)) ?_
            refine .p rfl rfl (.load rfl rfl rfl hc14) ?_
            refine .p rfl rfl (.conv8_i rfl rfl rfl) ?_
            refine .p rfl rfl (.min2 rfl rfl) ?_
            refine .p rfl rfl (.add rfl rfl (by omega)) ?_
            refine .p rfl rfl (.cast (.cut (s := 1) rfl rfl rfl rfl rfl (by omega)) (by show cutV 1 (some ⟨bb, bo, none⟩) cap4 16 (16 + min ((secAt b i)[14].toNat : Int) 112).toNat = .slice a5 (cutOf (secAt b i)) cap5; rw [hq]; exact hv54)) ?_
            refine .v rfl rfl (.append (t := tByte) (ys := ((secAt b i).drop 16).take (cutOf (secAt b i))) (eb := 1) rfl hO rfl (Sl.holds R54 (fun _ _ h => h)) rfl rfl rfl rfl rfl rfl rfl (by have := textTo_length b i; rw [List.length_take]; omega) (by have := textTo_length b i; rw [List.length_take]; simp only [Lim]; omega) (fun _ h _ => h.elim)) ?_
            rintro v55 w55 ⟨b55, O55, X55, hb55⟩
            have O55 := O55.mono (Q' := fun _ => False) (fun _ h _ => h.1)
            have hX55 := hX.then X55 (by rintro k rfl _; omega)
            refine .p rfl rfl (.as rfl) ?_
            refine .nil (.blk (.code (.keep [(11, _), (38, _), (37, _), (2, _), (0, _), (1, _), (10, _)] ⟨rfl, rfl, rfl, rfl, rfl, rfl, rfl, trivial⟩ (.region ?_))))
            refine .p rfl rfl (.add rfl rfl (by omega)) ?_
            refine .p rfl rfl (.mv rfl) ?_
            refine .nil ?_
            refine (again (i + 1, w55, v55, b55) ⟨by show i + 1 ≤ _; omega, ?_, hX55, ?_⟩ (by show _ - (i + 1) < _ - i; omega)).of ⟨rfl, rfl, rfl, rfl, rfl, rfl, rfl, trivial⟩
            · show Own tByte _ _ w55 v55 _ b55
              rw [textTo_succ]
              exact O55
            · show w.heap.size ≤ b55
              have : w.heap.size ≤ wi.heap.size := hX.size
              have hb : b55 = bo' ∨ b55 = wi.heap.size := hb55
              omega
          · obtain rfl : i = n := by omega
            obtain ⟨a6, cap6, hv58, hc58, R58⟩ := Sl.cutE (tBytes.ext0 R36 hX) 4 (i * 128) (by omega) (by omega)
            have htl := textTo_length b i
            refine .exit rfl (.code (.seq (.keep [(2, _), (11, _), (0, _), (1, _), (10, _)] ⟨rfl, rfl, rfl, rfl, rfl, trivial⟩ (.region ?_))))
            refine .p rfl rfl (.mv rfl) ?_
            refine .p rfl rfl (.cast (.cutLo (s := 1) rfl rfl rfl rfl (by omega)) hv58) ?_
            refine .call (first := []) (captured := []) rfl rfl rfl rfl (logget_fn (tBytes.ext0 R58 (.refl _)) (by rw [List.length_drop, List.length_take, List.length_take]; omega)) ?_
            rintro _ w59 ⟨rfl, X59⟩
            rw [get4_eq hn1]
            have Z59 := hX.trans X59
            have RO := hO.rep (Q' := All) trivial (fun _ _ _ => trivial)
            refine .p rfl rfl (.as rfl) ?_
            refine .nil (.code (.seq (.keep [(7, _), (2, _), (11, _), (0, _), (1, _), (10, _)] ⟨rfl, rfl, rfl, rfl, rfl, rfl, trivial⟩ (.region ?_))))
            refine .p rfl rfl (.mv rfl) ?_
            refine .p rfl rfl (.mv rfl) ?_
            refine .p rfl rfl (.mv rfl) ?_
            refine .p rfl rfl (.mv rfl) ?_
            refine .p rfl rfl (.bytesStr rfl (tBytes.ext0 RO X59) rfl rfl rfl) ?_
            refine .call (first := []) (captured := []) rfl rfl rfl rfl (Frame_fn (by simp only [Lim]; omega)) ?_
            rintro _ w66 ⟨s66, rfl, R66, X66⟩
            have Z66 := Z59.trans X66
            refine .p rfl rfl (.mv rfl) ?_
            refine .p rfl rfl (.extract rfl rfl) ?_
            refine .p rfl rfl (.extract rfl rfl) ?_
            refine .p rfl rfl (.as rfl) ?_
            refine .p rfl rfl (.as rfl) ?_
            refine .nil (.code (.seq (.seq (.keep [(9, _), (14, _), (7, _), (2, _), (11, _), (10, _)] ⟨rfl, rfl, rfl, rfl, rfl, rfl, trivial⟩ (.region ?_)))))
            refine .p rfl rfl (.mv rfl) ?_
            refine .p rfl rfl (.ne rfl rfl) ?_
            refine .p rfl rfl (.mv rfl) ?_
            refine .caseD 71 rfl (fun c71 => ?_) (fun c71 => ?_)
            · refine .skip rfl rfl ?_
              refine .skip rfl rfl ?_
              refine .skip rfl rfl ?_
              refine .skip rfl rfl ?_
              refine .p rfl rfl (.pickT rfl rfl) ?_
              refine .nil (.code (.keep [(76, _), (7, _), (11, _), (10, _)] ⟨rfl, rfl, rfl, rfl, trivial⟩ (.condT rfl (.seq (.keep [] trivial (.region ?_))))))
              refine .p rfl rfl (.as rfl) ?_
              refine .p rfl rfl (.as rfl) ?_
              refine .p rfl rfl (.as rfl) ?_
              refine .p rfl rfl (.as rfl) ?_
              refine .nil (.code ?_)
              refine .ret _ rfl ?_
              have e : openF epoch prev b = ([], 0, 0, 0) := by unfold openF; rw [if_neg hE, if_neg hL, if_neg hN, h13, if_neg (fun hh => c71 hh.1)]
              rw [e]
              exact ⟨rfl, Z66⟩
            · refine .p rfl rfl (.mv rfl) ?_
              refine .p rfl rfl (.mv rfl) ?_
              refine .call (first := []) (captured := []) rfl rfl rfl rfl (bytesEqual_fn (allOf R66) (tBytes.ext0 R36 Z66)) ?_
              rintro _ w74 ⟨rfl, X74⟩
              refine .p rfl rfl (.notD rfl) ?_
              refine .p rfl rfl (.pickF rfl rfl) ?_
              refine .nil (.code (.keep [(76, _), (7, _), (11, _), (10, _)] ⟨rfl, rfl, rfl, rfl, trivial⟩ ?_))
              refine .condD rfl (fun c76 => ?_) (fun c76 => ?_)
              · refine .seq (.keep [] trivial (.region ?_))
                refine .p rfl rfl (.as rfl) ?_
                refine .p rfl rfl (.as rfl) ?_
                refine .p rfl rfl (.as rfl) ?_
                refine .p rfl rfl (.as rfl) ?_
                refine .nil (.code ?_)
                refine .ret _ rfl ?_
                have e : openF epoch prev b = ([], 0, 0, 0) := by unfold openF; rw [if_neg hE, if_neg hL, if_neg hN, h13, if_neg (fun hh => c76 hh.2)]
                rw [e]
                exact ⟨rfl, Z66.trans X74⟩
              · refine .skip (.code (.seq (.keep [(7, _), (11, _), (10, _)] ⟨rfl, rfl, rfl, trivial⟩ (.region ?_))))
                refine .p rfl rfl (.mv rfl) ?_
                refine .p rfl rfl (.bytesStr rfl (tBytes.ext0 RO ((X59.trans X66).trans X74)) rfl rfl rfl) ?_
                refine .p rfl rfl (.mv rfl) ?_
                refine .p rfl rfl (.mv rfl) ?_
                refine .p rfl rfl (.as rfl) ?_
                refine .p rfl rfl (.as rfl) ?_
                refine .p rfl rfl (.as rfl) ?_
                refine .p rfl rfl (.as rfl) ?_
                refine .nil (.code ?_)
                refine .ret _ rfl ?_
                have e : openF epoch prev b = (textTo b i, get4 (b.drop 4), i, 0) := by unfold openF; rw [if_neg hE, if_neg hL, if_neg hN, h13, if_pos ⟨Decidable.byContradiction c71, Decidable.byContradiction c76⟩]
                rw [e]
                exact ⟨rfl, Z66.trans X74⟩
end Go.Proofs.Ytapdacjpmmjlhaa
