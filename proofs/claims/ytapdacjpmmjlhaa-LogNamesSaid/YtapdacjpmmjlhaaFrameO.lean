
/-
  Package log: a record framed, in memory of the call's own.
-/
import Derived.Test.YtapdacjpmmjlhaaLog1
import Derived.Test.YtapdacjpmmjlhaaLo
set_option linter.unusedVariables false
set_option linter.unusedSimpArgs false
set_option maxRecDepth 20000
namespace Go.Proofs.Ytapdacjpmmjlhaa
open Go log
theorem FrameO_fn {w : World} {epoch salt prev : UInt32} {r : Bs} (hr : r.length < Lim) : Fn Try.prog 11 [u32 epoch, u32 salt, u32 prev, str r] w (fun v w2 => ∃ s, v = .tuple #[s, i64 (frameF epoch salt prev r).2] ∧ ∃ b, Own tByte (fun _ => False) 5 w2 s (frameF epoch salt prev r).1 b ∧ w.heap.size ≤ b ∧ Ext (fun _ => False) w w2) := by
  refine Fn.enter (fun w => Try.call11 _ w) Try.func11 rfl ?_
  refine .seq (.region ?_)
  refine .p rfl rfl (.as rfl) ?_
  refine .p rfl rfl (.as rfl) ?_
  refine .nil (.code (.seq (.block (.seq (.block (.seq (.block (.block (.seq (.seq (.seq (.keep [(0, _), (1, _), (2, _), (3, _)] ⟨rfl, rfl, rfl, rfl, trivial⟩ (.region ?_)))))))))))))
  refine .p rfl rfl (.mv rfl) ?_
  refine .p rfl rfl (.eq rfl rfl) ?_
  refine .p rfl rfl (.as rfl) ?_
  refine .nil (.code (.keep [(15, _), (0, _), (1, _), (2, _), (3, _)] ⟨rfl, rfl, rfl, rfl, rfl, trivial⟩ ?_))
  refine .condD rfl (fun c15 => ?_) (fun c15 => ?_)
  · refine .exit rfl (.blk (.code (.seq (.seq (.keep [] trivial (.region ?_))))))
    refine .p rfl rfl (.as rfl) ?_
    refine .p rfl rfl (.as rfl) ?_
    refine .nil (.code ?_)
    refine .ret _ rfl ?_
    have e : frameF epoch salt prev r = ([], 2) := by unfold frameF; rw [if_pos (.inl ((u32_zero _).1 c15))]
    rw [e]
    exact ⟨_, rfl, w.heap.size, Own.nil, Nat.le_refl _, .refl _⟩
  · refine .skip (.code (.seq (.seq (.keep [(0, _), (1, _), (2, _), (3, _)] ⟨rfl, rfl, rfl, rfl, trivial⟩ (.region ?_)))))
    refine .p rfl rfl (.mv rfl) ?_
    refine .p rfl rfl (.eq rfl rfl) ?_
    refine .p rfl rfl (.as rfl) ?_
    refine .nil (.code (.keep [(18, _), (0, _), (1, _), (2, _), (3, _)] ⟨rfl, rfl, rfl, rfl, rfl, trivial⟩ ?_))
    refine .condD rfl (fun c18 => ?_) (fun c18 => ?_)
    · refine .exit rfl (.code (.seq (.seq (.keep [] trivial (.region ?_)))))
      refine .p rfl rfl (.as rfl) ?_
      refine .p rfl rfl (.as rfl) ?_
      refine .nil (.code ?_)
      refine .ret _ rfl ?_
      have e : frameF epoch salt prev r = ([], 2) := by unfold frameF; rw [if_pos (.inr ((u32_zero _).1 c18))]
      rw [e]
      exact ⟨_, rfl, w.heap.size, Own.nil, Nat.le_refl _, .refl _⟩
    · refine .skip (.code (.seq (.keep [(0, _), (1, _), (2, _), (3, _)] ⟨rfl, rfl, rfl, rfl, trivial⟩ (.region ?_))))
      refine .p rfl rfl (.mv rfl) ?_
      refine .p rfl rfl (.lenS rfl rfl) ?_
      refine .p rfl rfl (.gt rfl rfl) ?_
      refine .p rfl rfl (.as rfl) ?_
      refine .nil (.code (.keep [(21, _), (0, _), (1, _), (2, _), (3, _)] ⟨rfl, rfl, rfl, rfl, rfl, trivial⟩ ?_))
      refine .condD rfl (fun c21 => ?_) (fun c21 => ?_)
      · refine .exit rfl (.code (.seq (.seq (.keep [] trivial (.region ?_)))))
        refine .p rfl rfl (.as rfl) ?_
        refine .p rfl rfl (.as rfl) ?_
        refine .nil (.code ?_)
        refine .ret _ rfl ?_
        have e : frameF epoch salt prev r = ([], 3) := by unfold frameF; rw [if_neg (by rw [← u32_zero, ← u32_zero]; omega), if_pos (by omega)]
        rw [e]
        exact ⟨_, rfl, w.heap.size, Own.nil, Nat.le_refl _, .refl _⟩
      · refine .skip (.code (.exit rfl (.code (.seq (.keep [(0, _), (1, _), (2, _), (3, _)] ⟨rfl, rfl, rfl, rfl, trivial⟩ (.region ?_))))))
        refine .p rfl rfl (.mv rfl) ?_
        refine .p rfl rfl (.lenS rfl rfl) ?_
        refine .call (first := []) (captured := []) rfl rfl rfl rfl (sectors_fn hr) ?_
        rintro _ w27 ⟨rfl, S27⟩
        have hnb := needs_bd (n := r.length) (by omega)
        refine .p rfl rfl (.as rfl) ?_
        refine .nil (.code (.seq (.keep [(10, _), (0, _), (1, _), (2, _), (3, _)] ⟨rfl, rfl, rfl, rfl, rfl, trivial⟩ (.region ?_))))
        refine .p rfl rfl (.mv rfl) ?_
        refine .p rfl rfl (.mul rfl rfl (by omega)) ?_
        refine .v rfl rfl (.makeCap (eb := 1) rfl rfl rfl rfl rfl rfl rfl rfl (by omega)) ?_
        rintro _ w30 ⟨rfl, N30⟩
        refine .p rfl rfl (.as rfl) ?_
        refine .nil (.code (.seq (.seq (.keep [(11, _), (10, _), (0, _), (1, _), (2, _), (3, _)] ⟨rfl, rfl, rfl, rfl, rfl, rfl, trivial⟩ (.region ?_)))))
        refine .p rfl rfl (.mv rfl) ?_
        refine .p rfl rfl (.mv rfl) ?_
        refine .nil (.code (.block ?_))
        refine .loop (S := Nat × World × Value × Nat) (fun s => [(32, i64 s.1), (31, i64 (needs r.length)), (10, i64 (needs r.length)), (11, s.2.2.1), (0, u32 epoch), (1, u32 salt), (2, u32 prev), (3, str r)]) (fun s => s.2.1) (fun s => s.1 ≤ needs r.length ∧ Own tByte (fun _ => False) 5 s.2.1 s.2.2.1 (frameTo epoch salt prev r (needs r.length) s.1) s.2.2.2 ∧ Ext (fun _ => False) w s.2.1 ∧ w.heap.size ≤ s.2.2.2 ∧ s.2.2.2 < s.2.1.heap.size) (fun s => needs r.length - s.1) (0, w30, _, w27.heap.size) ⟨rfl, rfl, rfl, rfl, rfl, rfl, rfl, rfl, trivial⟩ rfl ⟨Nat.zero_le _, Own.ofMake N30 rfl, (Ext.same S27).trans N30.ext, by show w.heap.size ≤ w27.heap.size; rw [S27.heap]; omega, by show w27.heap.size < w30.heap.size; have := N30.size; omega⟩ ?_
        rintro ⟨i, wi, vo, bo⟩ J ⟨hi, hO, hX, hbo, hbw⟩ again
        simp only at hi hO hX hbo hbw
        change G _ [(32, i64 i), (31, i64 (needs r.length)), (10, i64 (needs r.length)), (11, vo), (0, u32 epoch), (1, u32 salt), (2, u32 prev), (3, str r)] _ _ wi
        refine .seq (.region ?_)
        refine .p rfl rfl (.lt rfl rfl) ?_
        refine .nil (.code (.seq ?_))
        refine .condD rfl (fun c33 => ?_) (fun c33 => ?_)
        · have hfit := needs_fit (n := r.length) (i := i) (by omega)
          have hi37 : i < 37 := by omega
          refine .skip (.code (.seq (.block (.seq (.keep [(32, _), (31, _), (10, _), (11, _), (0, _), (1, _), (2, _), (3, _)] ⟨rfl, rfl, rfl, rfl, rfl, rfl, rfl, rfl, trivial⟩ (.region ?_))))))
          refine .p rfl rfl (.mv rfl) ?_
          refine .p rfl rfl (.as rfl) ?_
          refine .nil (.code (.seq (.keep [(12, _), (32, _), (31, _), (10, _), (11, _), (0, _), (1, _), (2, _), (3, _)] ⟨rfl, rfl, rfl, rfl, rfl, rfl, rfl, rfl, rfl, trivial⟩ (.region ?_))))
          refine .p rfl rfl (.mv rfl) ?_
          refine .p rfl rfl (.mv rfl) ?_
          refine .p rfl rfl (.mul rfl rfl (by omega)) ?_
          refine .p rfl rfl (.cutSLo rfl rfl rfl (by omega)) ?_
          refine .p rfl rfl (.as rfl) ?_
          refine .nil (.code (.seq (.keep [(13, _), (12, _), (32, _), (31, _), (10, _), (11, _), (0, _), (1, _), (2, _), (3, _)] ⟨rfl, rfl, rfl, rfl, rfl, rfl, rfl, rfl, rfl, rfl, trivial⟩ (.region ?_))))
          refine .p rfl rfl (.mv rfl) ?_
          refine .p rfl rfl (.mv rfl) ?_
          refine .p rfl rfl (.lenS rfl rfl) ?_
          refine .p rfl rfl (.min2 rfl rfl) ?_
          refine .p rfl rfl (.cast (.cutSHi rfl rfl rfl (by simp only [List.length_drop]; omega)) (by show str _ = str (pieceOf r i); rw [← piece_eq])) ?_
          refine .p rfl rfl (.as rfl) ?_
          refine .nil (.code (.seq (.keep [(13, _), (12, _), (32, _), (31, _), (10, _), (11, _), (0, _), (1, _), (2, _), (3, _)] ⟨rfl, rfl, rfl, rfl, rfl, rfl, rfl, rfl, rfl, rfl, trivial⟩ (.region ?_))))
          refine .v rfl rfl (.make (eb := 1) rfl rfl rfl rfl rfl rfl rfl rfl (by omega)) ?_
          rintro _ w44 ⟨rfl, N44⟩
          have B44 : Blk w44 wi.heap.size 5 ((List.replicate 128 0).map u8) := by rw [List.map_replicate]; exact N44.blk
          have Y44 := N44.ext
          refine .p rfl rfl (.as rfl) ?_
          refine .nil (.code (.seq (.keep [(14, _), (13, _), (12, _), (32, _), (31, _), (10, _), (11, _), (0, _), (1, _), (2, _), (3, _)] ⟨rfl, rfl, rfl, rfl, rfl, rfl, rfl, rfl, rfl, rfl, rfl, trivial⟩ (.region ?_))))
          refine .p rfl rfl (.mv rfl) ?_
          refine .p rfl rfl (.mv rfl) ?_
          refine .call (first := []) (captured := []) rfl rfl rfl rfl (logput_fn) ?_
          rintro r47 w47 ⟨R47, X47⟩
          have B47 := B44.ext X47 (fun x => x)
          have Y47 := Y44.trans X47
          refine .v rfl rfl (.copyB (c := wi.heap.size) (o := 0) (dn := 128) (dc := 128) rfl B47 rfl R47 rfl rfl (by simp [patch_length, put4_length])) ?_
          rintro _ w48 ⟨rfl, P48⟩
          have B48 : Blk w48 wi.heap.size 5 ((patch (List.replicate 128 0) 0 (put4 epoch)).map u8) := by rw [← patch_map _ _ _ 128 (by rw [put4_length]; omega)]; exact P48.blk
          have Y48 := Y47.then P48.ext (by rintro k rfl _; exact Nat.le_refl _)
          refine .nil (.code (.seq (.keep [(14, _), (13, _), (12, _), (32, _), (31, _), (10, _), (11, _), (0, _), (1, _), (2, _), (3, _)] ⟨rfl, rfl, rfl, rfl, rfl, rfl, rfl, rfl, rfl, rfl, rfl, trivial⟩ (.mix ((· = wi.heap.size)) [3, 4] (by kernel_rfl) (by kernel_rfl) (by kernel_rfl) ?_))))
          refine .p rfl rfl rfl (fun wx hx => .mv rfl) ?_
          refine .p rfl rfl rfl (fun wx hx => .cutLo (s := 1) rfl rfl rfl rfl (by omega)) ?_
          refine .p rfl rfl rfl (fun wx hx => .mv rfl) ?_
          refine .call (first := []) (captured := []) rfl rfl rfl rfl rfl (logput_fn) (by rintro _ _ ⟨_, hx⟩; exact hx.mono (fun _ _ h => h.elim)) ?_
          rintro r52 w52 ⟨R52, X52⟩
          have B52 := B48.ext X52 (fun x => x)
          have Y52 := Y48.trans X52
          refine .v rfl rfl rfl (.copyB (c := wi.heap.size) (o := 4) (dn := 124) (dc := 124) rfl B52 rfl R52 rfl rfl (by simp [patch_length, put4_length])) (by rintro _ _ ⟨_, hP⟩; exact (X52.mono (fun _ _ h => h.elim)).trans hP.ext) ?_
          rintro _ w53 ⟨rfl, P53⟩
          have B53 : Blk w53 wi.heap.size 5 ((patch (patch (List.replicate 128 0) 0 (put4 epoch)) 4 (put4 salt)).map u8) := by rw [← patch_map _ _ _ 124 (by rw [put4_length]; omega)]; exact P53.blk
          have Y53 := Y52.then P53.ext (by rintro k rfl _; exact Nat.le_refl _)
          refine .nil (.code (.seq (.keep [(14, _), (13, _), (12, _), (32, _), (31, _), (10, _), (11, _), (0, _), (1, _), (2, _), (3, _)] ⟨rfl, rfl, rfl, rfl, rfl, rfl, rfl, rfl, rfl, rfl, rfl, trivial⟩ (.mix ((· = wi.heap.size)) [3, 4] (by kernel_rfl) (by kernel_rfl) (by kernel_rfl) ?_))))
          refine .p rfl rfl rfl (fun wx hx => .mv rfl) ?_
          refine .p rfl rfl rfl (fun wx hx => .cutLo (s := 1) rfl rfl rfl rfl (by omega)) ?_
          refine .p rfl rfl rfl (fun wx hx => .mv rfl) ?_
          refine .call (first := []) (captured := []) rfl rfl rfl rfl rfl (logput_fn) (by rintro _ _ ⟨_, hx⟩; exact hx.mono (fun _ _ h => h.elim)) ?_
          rintro r57 w57 ⟨R57, X57⟩
          have B57 := B53.ext X57 (fun x => x)
          have Y57 := Y53.trans X57
          refine .v rfl rfl rfl (.copyB (c := wi.heap.size) (o := 8) (dn := 120) (dc := 120) rfl B57 rfl R57 rfl rfl (by simp [patch_length, put4_length])) (by rintro _ _ ⟨_, hP⟩; exact (X57.mono (fun _ _ h => h.elim)).trans hP.ext) ?_
          rintro _ w58 ⟨rfl, P58⟩
          have B58 : Blk w58 wi.heap.size 5 ((patch (patch (patch (List.replicate 128 0) 0 (put4 epoch)) 4 (put4 salt)) 8 (put4 prev)).map u8) := by rw [← patch_map _ _ _ 120 (by rw [put4_length]; omega)]; exact P58.blk
          have Y58 := Y57.then P58.ext (by rintro k rfl _; exact Nat.le_refl _)
          refine .nil (.code (.seq (.keep [(14, _), (13, _), (12, _), (32, _), (31, _), (10, _), (11, _), (0, _), (1, _), (2, _), (3, _)] ⟨rfl, rfl, rfl, rfl, rfl, rfl, rfl, rfl, rfl, rfl, rfl, trivial⟩ (.region ?_))))
          refine .p rfl rfl (.mv rfl) ?_
          refine .p rfl rfl (.mv rfl) ?_
          refine .p rfl rfl (.mv rfl) ?_
          refine .p rfl rfl (.mv rfl) ?_
          refine .p rfl rfl (.convB rfl rfl rfl (by omega)) ?_
          refine .p rfl rfl (.mv rfl) ?_
          refine .p rfl rfl (.convB rfl rfl rfl (by omega)) ?_
          refine .p rfl rfl (.mv rfl) ?_
          refine .p rfl rfl (.lenS rfl rfl) ?_
          refine .p rfl rfl (.convB rfl rfl rfl (by omega)) ?_
          refine .p rfl rfl (.indexAddr0 rfl rfl rfl rfl (by omega)) ?_
          refine .s rfl (.store rfl rfl rfl rfl rfl B58 (by rw [List.length_map, three_length]; decide)) ?_
          intro w69 P69
          have B69 : Blk w69 wi.heap.size 5 (((patch (patch (patch (List.replicate 128 0) 0 (put4 epoch)) 4 (put4 salt)) 8 (put4 prev)).set 12 (UInt8.ofNat i)).map u8) := by rw [← set_map]; exact P69.blk
          have Y69 := Y58.then P69.ext (by rintro k rfl _; exact Nat.le_refl _)
          refine .p rfl rfl (.indexAddr0 rfl rfl rfl rfl (by omega)) ?_
          refine .s rfl (.store rfl rfl rfl rfl rfl B69 (by rw [List.length_map, List.length_set, three_length]; decide)) ?_
          intro w70 P70
          have B70 : Blk w70 wi.heap.size 5 ((((patch (patch (patch (List.replicate 128 0) 0 (put4 epoch)) 4 (put4 salt)) 8 (put4 prev)).set 12 (UInt8.ofNat i)).set 13 (UInt8.ofNat (needs r.length))).map u8) := by rw [← set_map]; exact P70.blk
          have Y70 := Y69.then P70.ext (by rintro k rfl _; exact Nat.le_refl _)
          refine .p rfl rfl (.indexAddr0 rfl rfl rfl rfl (by omega)) ?_
          refine .s rfl (.store rfl rfl rfl rfl rfl B70 (by rw [List.length_map, List.length_set, List.length_set, three_length]; decide)) ?_
          intro w71 P71
          have B71 : Blk w71 wi.heap.size 5 (((((patch (patch (patch (List.replicate 128 0) 0 (put4 epoch)) 4 (put4 salt)) 8 (put4 prev)).set 12 (UInt8.ofNat i)).set 13 (UInt8.ofNat (needs r.length))).set 14 (UInt8.ofNat (pieceOf r i).length)).map u8) := by rw [← set_map]; exact P71.blk
          have Y71 := Y70.then P71.ext (by rintro k rfl _; exact Nat.le_refl _)
          refine .nil (.code (.seq (.keep [(14, _), (13, _), (32, _), (31, _), (10, _), (11, _), (0, _), (1, _), (2, _), (3, _)] ⟨rfl, rfl, rfl, rfl, rfl, rfl, rfl, rfl, rfl, rfl, trivial⟩ (.region ?_))))
          refine .p rfl rfl (.mv rfl) ?_
          refine .p rfl rfl (.cutLo (s := 1) rfl rfl rfl rfl (by omega)) ?_
          refine .p rfl rfl (.mv rfl) ?_
          refine .v rfl rfl (.copyS (c := wi.heap.size) (o := 16) (dn := 112) (dc := 112) rfl B71 rfl rfl rfl (piece_le r i) (by have := piece_le r i; simp only [List.length_map, List.length_set, three_length]; omega)) ?_
          rintro _ w75 ⟨rfl, P75⟩
          have B75 : Blk w75 wi.heap.size 5 ((sectorOf epoch salt prev r (needs r.length) i).map u8) := by
            rw [sectorOf, ← sector_made _ _ _ _ _ _ _ (put4_length _) (put4_length _) (put4_length _) (piece_le r i), ← patch_mapS]
            exact P75.blk
          have Y75 := Y71.then P75.ext (by rintro k rfl _; exact Nat.le_refl _)
          have hsl := sectorOf_length epoch salt prev r (needs r.length) i
          have R75 : tBytes.rep All w75 (.slice (some ⟨wi.heap.size, 0, none⟩) 128 128) (sectorOf epoch salt prev r (needs r.length) i) := Sl.mkBytesB B75 (by rw [List.take_of_length_le (by simp)]) trivial (by omega) (by simp only [Lim]; omega) hsl.symm
          refine .nil (.code (.keep [(14, _), (32, _), (31, _), (10, _), (11, _), (0, _), (1, _), (2, _), (3, _)] ⟨rfl, rfl, rfl, rfl, rfl, rfl, rfl, rfl, rfl, trivial⟩ (.region ?_)))
          refine .p rfl rfl (.mv rfl) ?_
          refine .p rfl rfl (.mv rfl) ?_
          refine .v rfl rfl (.append (t := tByte) (eb := 1) rfl (hO.ext0 Y75) rfl (Sl.holds R75 (fun _ _ h => h)) rfl rfl rfl rfl rfl rfl rfl (by rw [frameTo_length, hsl]; omega) (by rw [frameTo_length, hsl]; simp only [Lim]; omega) (fun _ h _ => h.elim)) ?_
          rintro v78 w78 ⟨b78, O78, X78, hb78⟩
          have O78 := O78.mono (Q' := fun _ => False) (fun _ h _ => h.1)
          refine .p rfl rfl (.as rfl) ?_
          refine .nil (.blk (.code (.keep [(11, _), (32, _), (31, _), (10, _), (0, _), (1, _), (2, _), (3, _)] ⟨rfl, rfl, rfl, rfl, rfl, rfl, rfl, rfl, trivial⟩ (.region ?_))))
          refine .p rfl rfl (.add rfl rfl (by omega)) ?_
          refine .p rfl rfl (.mv rfl) ?_
          refine .nil ?_
          have hX78 := (hX.trans Y75).then X78 (by rintro k rfl _; exact hbo)
          refine (again (i + 1, w78, v78, b78) ⟨by show i + 1 ≤ _; omega, ?_, hX78, ?_, ?_⟩ (by show _ - (i + 1) < _ - i; omega)).of ⟨rfl, rfl, rfl, rfl, rfl, rfl, rfl, rfl, trivial⟩
          · show Own tByte _ _ w78 v78 _ b78
            rw [frameTo_succ]
            exact O78
          · show w.heap.size ≤ b78
            have := (hX.trans Y75).size
            omega
          · exact O78.lt (fun e => by have := congrArg List.length e; rw [List.length_append, hsl] at this; simp at this)
        · refine .exit rfl (.code (.seq (.keep [(11, _)] ⟨rfl, trivial⟩ (.region ?_))))
          refine .p rfl rfl (.mv rfl) ?_
          refine .p rfl rfl (.as rfl) ?_
          refine .p rfl rfl (.as rfl) ?_
          refine .nil (.code ?_)
          refine .ret _ rfl ?_
          have e : frameF epoch salt prev r = (frameL epoch salt prev r, 0) := by unfold frameF; rw [if_neg (by rw [← u32_zero, ← u32_zero]; omega), if_neg (by omega)]
          rw [e]
          obtain rfl : i = needs r.length := by omega
          exact ⟨_, rfl, _, hO, hbo, hX⟩
end Go.Proofs.Ytapdacjpmmjlhaa
