
/-
  Layer 5, the document's own answer: a record read out of sectors.
-/
import Derived.Test.YtapdacjpmmjlhaaRef05
import Derived.Test.YtapdacjpmmjlhaaLogLaw
set_option linter.unusedVariables false
set_option linter.unusedSimpArgs false
set_option maxRecDepth 20000
namespace Go.Proofs.Ytapdacjpmmjlhaa
open Go log
theorem RefOpen_fn {w : World} {v : Value} {epoch prev : UInt32} {b : Bs} (h : tBytes.rep All w v b) : Fn Try.prog 14 [u32 epoch, u32 prev, v] w (fun r w2 => r = .tuple #[str (openF epoch prev b).1, u32 (openF epoch prev b).2.1, i64 (openF epoch prev b).2.2.1, i64 (openF epoch prev b).2.2.2] ∧ Ext (fun _ => False) w w2) := by
  obtain ⟨a, cap, rfl, hcap⟩ := Sl.val h
  have hlim := Sl.lim h
  simp only [Lim] at hlim
  refine Fn.enter (fun w => Try.call14 _ w) Try.func14 rfl ?_
  refine .seq (.region ?_)
  refine .p rfl rfl (.as rfl) ?_
  refine .p rfl rfl (.as rfl) ?_
  refine .p rfl rfl (.as rfl) ?_
  refine .p rfl rfl (.as rfl) ?_
  refine .nil (.code (.seq (.seq (.keep [(0, _), (1, _), (2, _)] ⟨rfl, rfl, rfl, trivial⟩ (.region ?_)))))
  refine .p rfl rfl (.mv rfl) ?_
  refine .p rfl rfl (.eq rfl rfl) ?_
  refine .nil (.code (.keep [(19, _), (0, _), (1, _), (2, _)] ⟨rfl, rfl, rfl, rfl, trivial⟩ ?_))
  refine .condD rfl (fun c19 => ?_) (fun c19 => ?_)
  · refine .seq (.keep [] trivial (.region ?_))
    refine .p rfl rfl (.as rfl) ?_
    refine .p rfl rfl (.as rfl) ?_
    refine .p rfl rfl (.as rfl) ?_
    refine .p rfl rfl (.as rfl) ?_
    refine .nil (.code ?_)
    refine .ret _ rfl ?_
    have e : openF epoch prev b = ([], 0, 0, 2) := by unfold openF; rw [if_pos ((u32_zero _).1 c19)]
    rw [e]
    exact ⟨rfl, .refl _⟩
  · refine .skip (.code (.seq (.seq (.keep [(0, _), (1, _), (2, _)] ⟨rfl, rfl, rfl, trivial⟩ (.region ?_)))))
    refine .p rfl rfl (.mv rfl) ?_
    refine .p rfl rfl (.len rfl rfl) ?_
    refine .p rfl rfl (.lt rfl rfl) ?_
    refine .nil (.code (.keep [(22, _), (0, _), (1, _), (2, _)] ⟨rfl, rfl, rfl, rfl, trivial⟩ ?_))
    refine .condD rfl (fun c22 => ?_) (fun c22 => ?_)
    · refine .seq (.keep [] trivial (.region ?_))
      refine .p rfl rfl (.as rfl) ?_
      refine .p rfl rfl (.as rfl) ?_
      refine .p rfl rfl (.as rfl) ?_
      refine .p rfl rfl (.as rfl) ?_
      refine .nil (.code ?_)
      refine .ret _ rfl ?_
      have e : openF epoch prev b = ([], 0, 0, 0) := by unfold openF; rw [if_neg (fun e => c19 ((u32_zero _).2 e)), if_pos (by omega)]
      rw [e]
      exact ⟨rfl, .refl _⟩
    · have hE : ¬ epoch = 0 := fun e => c19 ((u32_zero _).2 e)
      have hL : ¬ b.length < 128 := by omega
      obtain ⟨b13, o13, rfl, _, hc13⟩ := Sl.byteAt h (k := 13) (by omega)
      obtain ⟨n, hn⟩ : ∃ n, n = b[13].toNat := ⟨_, rfl⟩
      have h13 : (b.getD 13 0).toNat = n := by rw [hn, List.getD, List.getElem?_eq_getElem (by omega)]; rfl
      have hn256 : n < 256 := by have := b[13].toNat_lt; omega
      obtain ⟨a24, cap24, hv24, hc24, R24⟩ := Sl.cutE h 4 b.length (by omega) (by omega)
      refine .skip (.code (.seq (.keep [(0, _), (1, _), (2, _)] ⟨rfl, rfl, rfl, trivial⟩ (.region ?_))))
      refine .p rfl rfl (.mv rfl) ?_
      refine .p rfl rfl (.cast (.cutLo (s := 1) rfl rfl rfl rfl (by omega)) hv24) ?_
      refine .call (first := []) (captured := []) rfl rfl rfl rfl (number_fn R24 (by rw [List.length_drop, List.length_take]; omega)) ?_
      rintro _ w25 ⟨rfl, X25⟩
      rw [show get4 ((b.take b.length).drop 4) = get4 (b.drop 4) by rw [List.take_length]]
      refine .p rfl rfl (.as rfl) ?_
      refine .nil (.code (.seq (.keep [(10, _), (0, _), (1, _), (2, _)] ⟨rfl, rfl, rfl, rfl, trivial⟩ (.region ?_))))
      refine .p rfl rfl (.mv rfl) ?_
      refine .p rfl rfl (.indexAddr1 rfl rfl rfl rfl (by omega)) ?_
      refine .p rfl rfl (.load rfl rfl rfl (X25.cell hc13 (fun x => x))) ?_
      refine .p rfl rfl (.cast (.conv8_i rfl rfl rfl) (by show i64 (b[13].toNat : Int) = i64 (n : Int); rw [hn])) ?_
      refine .p rfl rfl (.as rfl) ?_
      refine .nil (.code (.seq (.seq (.keep [(11, _), (10, _), (0, _), (1, _), (2, _)] ⟨rfl, rfl, rfl, rfl, rfl, trivial⟩ (.region ?_)))))
      refine .p rfl rfl (.mv rfl) ?_
      refine .p rfl rfl (.eq rfl rfl) ?_
      refine .p rfl rfl (.mv rfl) ?_
      refine .caseD 32 rfl (fun c32 => ?_) (fun c32 => ?_)
      · refine .skip rfl rfl ?_
        refine .skip rfl rfl ?_
        refine .p rfl rfl (.pickT rfl rfl) ?_
        refine .p rfl rfl (.mv rfl) ?_
        refine .skip rfl rfl ?_
        refine .skip rfl rfl ?_
        refine .skip rfl rfl ?_
        refine .skip rfl rfl ?_
        refine .skip rfl rfl ?_
        refine .p rfl rfl (.pickT rfl rfl) ?_
        refine .nil (.code (.keep [(42, _), (11, _), (10, _), (0, _), (1, _), (2, _)] ⟨rfl, rfl, rfl, rfl, rfl, rfl, trivial⟩ (.condT rfl (.seq (.keep [] trivial (.region ?_))))))
        refine .p rfl rfl (.as rfl) ?_
        refine .p rfl rfl (.as rfl) ?_
        refine .p rfl rfl (.as rfl) ?_
        refine .p rfl rfl (.as rfl) ?_
        refine .nil (.code ?_)
        refine .ret _ rfl ?_
        have e : openF epoch prev b = ([], 0, 0, 0) := open_salt hE hL ((u32_zero _).1 c32)
        rw [e]
        exact ⟨rfl, X25⟩
      · refine .p rfl rfl (.mv rfl) ?_
        refine .p rfl rfl (.lt rfl rfl) ?_
        refine .p rfl rfl (.pickF rfl rfl) ?_
        refine .p rfl rfl (.mv rfl) ?_
        refine .caseD 36 rfl (fun c36 => ?_) (fun c36 => ?_)
        · refine .skip rfl rfl ?_
          refine .skip rfl rfl ?_
          refine .skip rfl rfl ?_
          refine .skip rfl rfl ?_
          refine .skip rfl rfl ?_
          refine .p rfl rfl (.pickT rfl rfl) ?_
          refine .nil (.code (.keep [(42, _), (11, _), (10, _), (0, _), (1, _), (2, _)] ⟨rfl, rfl, rfl, rfl, rfl, rfl, trivial⟩ (.condT rfl (.seq (.keep [] trivial (.region ?_))))))
          refine .p rfl rfl (.as rfl) ?_
          refine .p rfl rfl (.as rfl) ?_
          refine .p rfl rfl (.as rfl) ?_
          refine .p rfl rfl (.as rfl) ?_
          refine .nil (.code ?_)
          refine .ret _ rfl ?_
          have e : openF epoch prev b = ([], 0, 0, 0) := by unfold openF; rw [if_neg hE, if_neg hL, if_pos (by rw [h13]; omega)]
          rw [e]
          exact ⟨rfl, X25⟩
        · refine .p rfl rfl (.mv rfl) ?_
          refine .p rfl rfl (.mul rfl rfl (by omega)) ?_
          refine .p rfl rfl (.mv rfl) ?_
          refine .p rfl rfl (.len rfl rfl) ?_
          refine .p rfl rfl (.gt rfl rfl) ?_
          refine .p rfl rfl (.pickF rfl rfl) ?_
          refine .nil (.code (.keep [(42, _), (11, _), (10, _), (0, _), (1, _), (2, _)] ⟨rfl, rfl, rfl, rfl, rfl, rfl, trivial⟩ ?_))
          refine .condD rfl (fun c42 => ?_) (fun c42 => ?_)
          · refine .seq (.keep [] trivial (.region ?_))
            refine .p rfl rfl (.as rfl) ?_
            refine .p rfl rfl (.as rfl) ?_
            refine .p rfl rfl (.as rfl) ?_
            refine .p rfl rfl (.as rfl) ?_
            refine .nil (.code ?_)
            refine .ret _ rfl ?_
            have e : openF epoch prev b = ([], 0, 0, 0) := by unfold openF; rw [if_neg hE, if_neg hL, if_pos (by rw [h13]; omega)]
            rw [e]
            exact ⟨rfl, X25⟩
          · have hnb : n * 128 ≤ b.length := by omega
            have hn1 : 1 ≤ n := by omega
            have hN : ¬ ((b.getD 13 0).toNat = 0 ∨ b.length < (b.getD 13 0).toNat * 128) := by rw [h13]; omega
            refine .skip (.code (.seq (.keep [(11, _), (10, _), (0, _), (1, _), (2, _)] ⟨rfl, rfl, rfl, rfl, rfl, trivial⟩ (.region ?_))))
            refine .p rfl rfl (.as rfl) ?_
            refine .nil (.code (.seq (.seq (.region ?_))))
            refine .p rfl rfl (.as rfl) ?_
            refine .nil (.code (.block ?_))
            refine .loop (S := Nat × World × Value × Nat) (fun s => [(13, i64 s.1), (11, i64 n), (2, .slice (some ⟨b13, o13, none⟩) b.length cap), (12, s.2.2.1), (0, u32 epoch), (1, u32 prev), (10, u32 (get4 (b.drop 4)))]) (fun s => s.2.1) (fun s => s.1 ≤ n ∧ Own tByte (fun _ => False) 5 s.2.1 s.2.2.1 (refTo b s.1) s.2.2.2 ∧ Ext (fun _ => False) w s.2.1 ∧ w.heap.size ≤ s.2.2.2 ∧ ∀ i, i < s.1 → kOf (secAt b i) ≤ 112) (fun s => n - s.1) (0, w25, .slice none 0 0, w.heap.size) ⟨rfl, rfl, rfl, rfl, rfl, rfl, rfl, trivial⟩ rfl ⟨Nat.zero_le _, Own.nil, X25, Nat.le_refl _, fun i hi => absurd hi (Nat.not_lt_zero _)⟩ ?_
            rintro ⟨i, wi, vo, bo'⟩ J ⟨hi, hO, hX, hbo, hall⟩ again
            simp only at hi hO hX hbo hall
            refine .seq (.seq (.region ?_))
            refine .p rfl rfl (.mv rfl) ?_
            refine .p rfl rfl (.mv rfl) ?_
            refine .p rfl rfl (.lt rfl rfl) ?_
            refine .nil (.code (.keep [(45, _), (13, _), (11, _), (2, _), (12, _), (0, _), (1, _), (10, _)] ⟨rfl, rfl, rfl, rfl, rfl, rfl, rfl, rfl, trivial⟩ ?_))
            refine .condD rfl (fun c45 => ?_) (fun c45 => ?_)
            · have hin : i < n := by omega
              obtain ⟨a4, cap4, hv54, hc54, R54⟩ := Sl.cutE (tBytes.ext0 h hX) (i * 128) (i * 128 + 128) (by omega) (by omega)
              have esec : (b.take (i * 128 + 128)).drop (i * 128) = secAt b i := by rw [List.drop_take, Nat.add_sub_cancel_left, secAt, Nat.mul_comm]
              rw [esec] at R54
              rw [Nat.add_sub_cancel_left] at hv54 R54 hc54
              have hsl := secAt_length hin hnb
              obtain ⟨bb, bo, rfl, _, hc14⟩ := Sl.byteAt R54 (k := 14) (by omega)
              obtain ⟨bb', bo2, e15, _, hc15⟩ := Sl.byteAt R54 (k := 15) (by omega)
              cases e15
              have h14l := (secAt b i)[14].toNat_lt
              have h15l := (secAt b i)[15].toNat_lt
              have hkk : kOf (secAt b i) = (secAt b i)[14].toNat + 256 * (secAt b i)[15].toNat := by unfold kOf; rw [List.getD, List.getD, List.getElem?_eq_getElem (by omega), List.getElem?_eq_getElem (by omega)]; rfl
              refine .skip (.code (.seq (.block (.seq (.keep [(13, _), (11, _), (2, _), (12, _), (0, _), (1, _), (10, _)] ⟨rfl, rfl, rfl, rfl, rfl, rfl, rfl, trivial⟩ (.region ?_))))))
              refine .p rfl rfl (.mv rfl) ?_
              refine .p rfl rfl (.mv rfl) ?_
              refine .p rfl rfl (.mul rfl rfl (by omega)) ?_
              refine .p rfl rfl (.mv rfl) ?_
              refine .p rfl rfl (.mul rfl rfl (by omega)) ?_
              refine .p rfl rfl (.add rfl rfl (by omega)) ?_
              refine .p rfl rfl (.cast (.cut (s := 1) rfl rfl rfl rfl rfl (by omega)) (by show cutV 1 (some ⟨b13, o13, none⟩) cap ((i : Int) * 128).toNat ((i : Int) * 128 + 128).toNat = .slice (some ⟨bb, bo, none⟩) 128 cap4; rw [show ((i : Int) * 128).toNat = i * 128 by omega, show ((i : Int) * 128 + 128).toNat = i * 128 + 128 by omega]; exact hv54)) ?_
              refine .p rfl rfl (.as rfl) ?_
              refine .nil (.code (.seq (.keep [(14, _), (13, _), (11, _), (2, _), (12, _), (0, _), (1, _), (10, _)] ⟨rfl, rfl, rfl, rfl, rfl, rfl, rfl, rfl, trivial⟩ (.draws (by kernel_rfl) (by kernel_rfl) ?_))))
              refine .p rfl rfl (.mv rfl) ?_
              refine .p rfl rfl (.indexAddr1 rfl rfl rfl rfl (by omega)) ?_
              refine .p rfl rfl (.load rfl rfl rfl hc14) ?_
              refine .p rfl rfl (.conv8_i rfl rfl rfl) ?_
              refine .p rfl rfl (.mv rfl) ?_
              refine .p rfl rfl (.indexAddr1 rfl rfl rfl rfl (by omega)) ?_
              refine .p rfl rfl (.load rfl rfl rfl hc15) ?_
              refine .p rfl rfl (.conv8_i rfl rfl rfl) ?_
              refine .p rfl rfl (.mul rfl rfl (by omega)) ?_
              refine .p rfl rfl (.cast (.add rfl rfl (by omega)) (by show i64 ((secAt b i)[14].toNat + 256 * ((secAt b i)[15].toNat : Int)) = i64 (kOf (secAt b i) : Int); rw [hkk]; simp)) ?_
              refine .p rfl rfl (.as rfl) ?_
              refine .nil (.code (.seq (.seq (.keep [(15, _), (14, _), (13, _), (11, _), (2, _), (12, _), (0, _), (1, _), (10, _)] ⟨rfl, rfl, rfl, rfl, rfl, rfl, rfl, rfl, rfl, trivial⟩ (.region ?_)))))
              refine .p rfl rfl (.mv rfl) ?_
              refine .p rfl rfl (.gt rfl rfl) ?_
              refine .nil (.code (.keep [(66, _), (15, _), (14, _), (13, _), (11, _), (2, _), (12, _), (0, _), (1, _), (10, _)] ⟨rfl, rfl, rfl, rfl, rfl, rfl, rfl, rfl, rfl, rfl, trivial⟩ ?_))
              refine .condD rfl (fun c66 => ?_) (fun c66 => ?_)
              · refine .seq (.keep [] trivial (.region ?_))
                refine .p rfl rfl (.as rfl) ?_
                refine .p rfl rfl (.as rfl) ?_
                refine .p rfl rfl (.as rfl) ?_
                refine .p rfl rfl (.as rfl) ?_
                refine .nil (.code ?_)
                refine .ret _ rfl ?_
                have e : openF epoch prev b = ([], 0, 0, 0) := open_far hE hL hN (by rw [h13]; exact hin) (by omega)
                rw [e]
                exact ⟨rfl, hX⟩
              · have hk112 : kOf (secAt b i) ≤ 112 := by omega
                have hrl := refTo_length i hall
                obtain ⟨a5, cap5, hv71, hc71, R71⟩ := Sl.cutE R54 16 (16 + kOf (secAt b i)) (by omega) (by omega)
                rw [List.drop_take] at R71
                rw [Nat.add_sub_cancel_left] at R71 hv71
                refine .skip (.code (.keep [(15, _), (14, _), (13, _), (11, _), (2, _), (12, _), (0, _), (1, _), (10, _)] ⟨rfl, rfl, rfl, rfl, rfl, rfl, rfl, rfl, rfl, trivial⟩ (.region ?_)))
                refine .p rfl rfl (.mv rfl) ?_
                refine .p rfl rfl (.mv rfl) ?_
                refine .p rfl rfl (.mv rfl) ?_
                refine .p rfl rfl (.add rfl rfl (by omega)) ?_
                refine .p rfl rfl (.cast (.cut (s := 1) rfl rfl rfl rfl rfl (by omega)) (by show cutV 1 (some ⟨bb, bo, none⟩) cap4 16 (16 + (kOf (secAt b i) : Int)).toNat = .slice a5 (kOf (secAt b i)) cap5; rw [show (16 + (kOf (secAt b i) : Int)).toNat = 16 + kOf (secAt b i) by omega]; exact hv71)) ?_
                refine .v rfl rfl (.append (t := tByte) (ys := ((secAt b i).drop 16).take (kOf (secAt b i))) (eb := 1) rfl hO rfl (Sl.holds R71 (fun _ _ h => h)) rfl rfl rfl rfl rfl rfl rfl (by rw [List.length_take]; omega) (by rw [List.length_take]; simp only [Lim]; omega) (fun _ h _ => h.elim)) ?_
                rintro v72 w72 ⟨b72, O72, X72, hb72⟩
                have O72 := O72.mono (Q' := fun _ => False) (fun _ h _ => h.1)
                have hX72 := hX.then X72 (by rintro k rfl _; omega)
                refine .p rfl rfl (.as rfl) ?_
                refine .nil (.blk (.code (.keep [(12, _), (13, _), (11, _), (2, _), (0, _), (1, _), (10, _)] ⟨rfl, rfl, rfl, rfl, rfl, rfl, rfl, trivial⟩ (.region ?_))))
                refine .p rfl rfl (.mv rfl) ?_
                refine .p rfl rfl (.add rfl rfl (by omega)) ?_
                refine .p rfl rfl (.as rfl) ?_
                refine .nil ?_
                refine (again (i + 1, w72, v72, b72) ⟨by show i + 1 ≤ _; omega, ?_, hX72, ?_, ?_⟩ (by show _ - (i + 1) < _ - i; omega)).of ⟨rfl, rfl, rfl, rfl, rfl, rfl, rfl, trivial⟩
                · show Own tByte _ _ w72 v72 _ b72
                  rw [refTo_succ]
                  exact O72
                · show w.heap.size ≤ b72
                  have : w.heap.size ≤ wi.heap.size := hX.size
                  have hb : b72 = bo' ∨ b72 = wi.heap.size := hb72
                  omega
                · intro j hj
                  have hj : j < i + 1 := hj
                  rcases Nat.lt_or_ge j i with h1 | h1
                  · exact hall j h1
                  · obtain rfl : j = i := by omega
                    exact hk112
            · obtain rfl : i = n := by omega
              rw [refTo_eq i hall] at hO
              have htl := textTo_length b i
              have RO := hO.rep (Q' := All) trivial (fun _ _ _ => trivial)
              obtain ⟨a9, cap9, hv90, hc90, R90⟩ := Sl.cutE h 0 (i * 128) (by omega) (by omega)
              simp only [Nat.sub_zero, List.drop_zero] at hv90 R90
              refine .exit rfl (.code (.seq (.keep [(11, _), (2, _), (12, _), (0, _), (1, _), (10, _)] ⟨rfl, rfl, rfl, rfl, rfl, rfl, trivial⟩ (.region ?_))))
              refine .p rfl rfl (.mv rfl) ?_
              refine .p rfl rfl (.mv rfl) ?_
              refine .p rfl rfl (.mv rfl) ?_
              refine .p rfl rfl (.mv rfl) ?_
              refine .p rfl rfl (.bytesStr rfl RO rfl rfl rfl) ?_
              refine .call (first := []) (captured := []) rfl rfl rfl rfl (RefFrame_fn (by simp only [Lim]; omega)) ?_
              rintro _ w79 ⟨s79, rfl, R79, X79⟩
              have Z79 := hX.trans X79
              refine .p rfl rfl (.mv rfl) ?_
              refine .p rfl rfl (.extract rfl rfl) ?_
              refine .p rfl rfl (.extract rfl rfl) ?_
              refine .p rfl rfl (.as rfl) ?_
              refine .p rfl rfl (.as rfl) ?_
              refine .nil (.code (.seq (.seq (.keep [(17, _), (16, _), (11, _), (2, _), (12, _), (10, _)] ⟨rfl, rfl, rfl, rfl, rfl, rfl, trivial⟩ (.draws (by kernel_rfl) (by kernel_rfl) ?_)))))
              refine .p rfl rfl (.mv rfl) ?_
              refine .p rfl rfl (.ne rfl rfl) ?_
              refine .p rfl rfl (.mv rfl) ?_
              refine .caseD 84 rfl (fun c84 => ?_) (fun c84 => ?_)
              · refine .skip rfl rfl ?_
                refine .skip rfl rfl ?_
                refine .skip rfl rfl ?_
                refine .skip rfl rfl ?_
                refine .skip rfl rfl ?_
                refine .skip rfl rfl ?_
                refine .skip rfl rfl ?_
                refine .skip rfl rfl ?_
                refine .p rfl rfl (.pickT rfl rfl) ?_
                refine .nil (.code (.keep [(93, _), (11, _), (12, _), (10, _)] ⟨rfl, rfl, rfl, rfl, trivial⟩ (.condT rfl (.seq (.keep [] trivial (.region ?_))))))
                refine .p rfl rfl (.as rfl) ?_
                refine .p rfl rfl (.as rfl) ?_
                refine .p rfl rfl (.as rfl) ?_
                refine .p rfl rfl (.as rfl) ?_
                refine .nil (.code ?_)
                refine .ret _ rfl ?_
                have e : openF epoch prev b = ([], 0, 0, 0) := by unfold openF; rw [if_neg hE, if_neg hL, if_neg hN, h13, if_neg (fun hh => c84 hh.1)]
                rw [e]
                exact ⟨rfl, Z79⟩
              · refine .p rfl rfl (.mv rfl) ?_
                refine .p rfl rfl (.bytesStr rfl (allOf R79) rfl rfl rfl) ?_
                refine .p rfl rfl (.mv rfl) ?_
                refine .p rfl rfl (.mv rfl) ?_
                refine .p rfl rfl (.mul rfl rfl (by omega)) ?_
                refine .p rfl rfl (.cast (.cutHi (s := 1) rfl rfl rfl rfl (by omega)) (by show cutV 1 (some ⟨b13, o13, none⟩) cap 0 ((i : Int) * 128).toNat = .slice a9 (i * 128) cap9; rw [show ((i : Int) * 128).toNat = i * 128 by omega]; exact hv90)) ?_
                refine .p rfl rfl (.bytesStr rfl (tBytes.ext0 R90 Z79) rfl rfl rfl) ?_
                refine .p rfl rfl (.neS rfl rfl) ?_
                refine .p rfl rfl (.pickF rfl rfl) ?_
                refine .nil (.code (.keep [(93, _), (11, _), (12, _), (10, _)] ⟨rfl, rfl, rfl, rfl, trivial⟩ ?_))
                refine .condD rfl (fun c93 => ?_) (fun c93 => ?_)
                · refine .seq (.keep [] trivial (.region ?_))
                  refine .p rfl rfl (.as rfl) ?_
                  refine .p rfl rfl (.as rfl) ?_
                  refine .p rfl rfl (.as rfl) ?_
                  refine .p rfl rfl (.as rfl) ?_
                  refine .nil (.code ?_)
                  refine .ret _ rfl ?_
                  have e : openF epoch prev b = ([], 0, 0, 0) := by unfold openF; rw [if_neg hE, if_neg hL, if_neg hN, h13, if_neg (fun hh => c93 hh.2)]
                  rw [e]
                  exact ⟨rfl, Z79⟩
                · refine .skip (.code (.seq (.keep [(11, _), (12, _), (10, _)] ⟨rfl, rfl, rfl, trivial⟩ (.region ?_))))
                  refine .p rfl rfl (.mv rfl) ?_
                  refine .p rfl rfl (.bytesStr rfl (tBytes.ext0 RO X79) rfl rfl rfl) ?_
                  refine .p rfl rfl (.mv rfl) ?_
                  refine .p rfl rfl (.mv rfl) ?_
                  refine .p rfl rfl (.as rfl) ?_
                  refine .p rfl rfl (.as rfl) ?_
                  refine .p rfl rfl (.as rfl) ?_
                  refine .p rfl rfl (.as rfl) ?_
                  refine .nil (.code ?_)
                  refine .ret _ rfl ?_
                  have e : openF epoch prev b = (textTo b i, get4 (b.drop 4), i, 0) := by unfold openF; rw [if_neg hE, if_neg hL, if_neg hN, h13, if_pos ⟨Decidable.byContradiction c84, Decidable.byContradiction c93⟩]
                  rw [e]
                  exact ⟨rfl, Z79⟩
end Go.Proofs.Ytapdacjpmmjlhaa
