/-
  SieveBits: its walk.
-/
import Derived.Test.YtookkbceboccjaaLaw07a
import Derived.Test.YtookkbceboccjaaSieveLaw
import Derived.Test.YtookkbceboccjaaTree
set_option linter.unusedVariables false
namespace Go.Proofs.Ytookkbceboccjaa
open Go sieve
abbrev False1 : Nat → Prop := fun _ => False
namespace sieve
def bothL (b more : Bs) : Bs := (List.range b.length).map (fun i => b.getD i 0 ||| more.getD i 0)
theorem bothL_length (b more : Bs) : (bothL b more).length = b.length := by simp [bothL]
theorem bothL_get (b more : Bs) (i : Nat) : b.getD i 0 ||| (bothL b more).getD i 0 = (bothL b more).getD i 0 := by
  by_cases h : i < b.length
  · have : (bothL b more).getD i 0 = b.getD i 0 ||| more.getD i 0 := by
      rw [bothL, List.getD, List.getElem?_map, List.getElem?_range h]
      rfl
    rw [this, ← UInt8.or_assoc, UInt8.or_self]
  · rw [List.getD, List.getElem?_eq_none (by omega)]
    exact UInt8.zero_or
end sieve
theorem SieveBits_fn {w : World} {v u : Value} {b more : Bs} {key : Bs} (h : tBytes.rep All w v b) (hk : key.length < Lim) (hm : tBytes.rep All w u more) : Fn Try.prog 7 [v, str key, u] w (fun r w2 => r = .bool true ∧ Ext (fun _ => False) w w2) := by
  obtain ⟨a, cap, rfl, hcap⟩ := Sl.val h
  have hlim := Sl.lim h
  obtain ⟨am, capm, rfl, hcapm⟩ := Sl.val hm
  have hlimm := Sl.lim hm
  simp only [Lim] at hlim hlimm
  refine Fn.enter (fun w => Try.call7 _ w) Try.func7 rfl ?_
  refine .seq (.region ?_)
  refine .p rfl rfl (.as rfl) ?_
  refine .nil (.code (.seq (.keep [(0, _), (1, _), (2, _)] ⟨rfl, rfl, rfl, trivial⟩ (.region ?_))))
  refine .call (first := []) (captured := []) rfl rfl rfl rfl (alive_fn) ?_
  rintro _ w20 ⟨rfl, X20⟩
  refine .p rfl rfl (.as rfl) ?_
  refine .nil (.code (.seq (.seq (.keep [(7, _), (0, _), (1, _), (2, _)] ⟨rfl, rfl, rfl, rfl, trivial⟩ (.region ?_)))))
  refine .p rfl rfl (.mv rfl) ?_
  refine .p rfl rfl (.not rfl) ?_
  refine .nil (.code (.keep [(22, _), (7, _), (0, _), (1, _), (2, _)] ⟨rfl, rfl, rfl, rfl, rfl, trivial⟩ (.condF rfl (.skip (.code (.seq (.seq (.keep [(7, _), (0, _), (1, _), (2, _)] ⟨rfl, rfl, rfl, rfl, trivial⟩ (.region ?_)))))))))
  refine .p rfl rfl (.mv rfl) ?_
  refine .p rfl rfl (.len rfl rfl) ?_
  refine .p rfl rfl (.lt rfl rfl) ?_
  refine .p rfl rfl (.mv rfl) ?_
  refine .caseD 26 rfl (fun c26 => ?_) (fun c26 => ?_)
  · refine .skip rfl rfl ?_
    refine .skip rfl rfl ?_
    refine .skip rfl rfl ?_
    refine .p rfl rfl (.pickT rfl rfl) ?_
    refine .p rfl rfl (.mv rfl) ?_
    refine .skip rfl rfl ?_
    refine .skip rfl rfl ?_
    refine .skip rfl rfl ?_
    refine .p rfl rfl (.pickT rfl rfl) ?_
    refine .nil (.code (.keep [(35, _), (7, _), (0, _), (1, _), (2, _)] ⟨rfl, rfl, rfl, rfl, rfl, trivial⟩ (.condT rfl (.seq (.keep [(7, _)] ⟨rfl, trivial⟩ (.region ?_))))))
    refine .p rfl rfl (.mv rfl) ?_
    refine .p rfl rfl (.as rfl) ?_
    refine .nil (.code ?_)
    refine .ret _ rfl ?_
    exact ⟨rfl, X20⟩
  · refine .p rfl rfl (.mv rfl) ?_
    refine .p rfl rfl (.len rfl rfl) ?_
    refine .p rfl rfl (.gt rfl rfl) ?_
    refine .p rfl rfl (.pickF rfl rfl) ?_
    refine .p rfl rfl (.mv rfl) ?_
    refine .caseD 31 rfl (fun c31 => ?_) (fun c31 => ?_)
    · refine .skip rfl rfl ?_
      refine .skip rfl rfl ?_
      refine .skip rfl rfl ?_
      refine .p rfl rfl (.pickT rfl rfl) ?_
      refine .nil (.code (.keep [(35, _), (7, _), (0, _), (1, _), (2, _)] ⟨rfl, rfl, rfl, rfl, rfl, trivial⟩ (.condT rfl (.seq (.keep [(7, _)] ⟨rfl, trivial⟩ (.region ?_))))))
      refine .p rfl rfl (.mv rfl) ?_
      refine .p rfl rfl (.as rfl) ?_
      refine .nil (.code ?_)
      refine .ret _ rfl ?_
      exact ⟨rfl, X20⟩
    · refine .p rfl rfl (.mv rfl) ?_
      refine .p rfl rfl (.lenS rfl rfl) ?_
      refine .p rfl rfl (.gt rfl rfl) ?_
      refine .p rfl rfl (.pickF rfl rfl) ?_
      refine .nil (.code (.keep [(35, _), (7, _), (0, _), (1, _), (2, _)] ⟨rfl, rfl, rfl, rfl, rfl, trivial⟩ ?_))
      refine .condD rfl (fun c35 => ?_) (fun c35 => ?_)
      · refine .seq (.keep [(7, _)] ⟨rfl, trivial⟩ (.region ?_))
        refine .p rfl rfl (.mv rfl) ?_
        refine .p rfl rfl (.as rfl) ?_
        refine .nil (.code ?_)
        refine .ret _ rfl ?_
        exact ⟨rfl, X20⟩
      · refine .skip (.code (.seq (.keep [(7, _), (0, _), (1, _), (2, _)] ⟨rfl, rfl, rfl, rfl, trivial⟩ ?_)))
        refine .meet (S := Nat × Nat × Nat × World) (fun s => [(8, .slice (some ⟨s.1, 0, none⟩) b.length b.length), (9, .slice (some ⟨s.2.1, 0, none⟩) b.length b.length), (10, .slice (some ⟨s.2.2.1, 0, none⟩) b.length b.length), (0, .slice a b.length cap), (2, .slice am more.length capm), (1, str key), (7, .bool true)]) (fun s => s.2.2.2) (fun s => Blk s.2.2.2 s.1 5 (List.replicate b.length (u8 0)) ∧ Blk s.2.2.2 s.2.1 5 (List.replicate b.length (u8 0)) ∧ Blk s.2.2.2 s.2.2.1 5 (List.replicate b.length (u8 0)) ∧ Ext (fun _ => False) w20 s.2.2.2 ∧ s.1 ≠ s.2.1 ∧ s.1 ≠ s.2.2.1 ∧ s.2.1 ≠ s.2.2.1 ∧ w20.heap.size ≤ s.1 ∧ w20.heap.size ≤ s.2.1 ∧ w20.heap.size ≤ s.2.2.1) ?_ ?_
        · rintro ⟨p, q, r, w45⟩ ⟨hBp, hBq, hBr, Z45, hpq, hpr, hqr, hp, hq, hr⟩
          simp only at hBp hBq hBr Z45 hpq hpr hqr hp hq hr
          refine .code (.seq (.seq (.region ?_)))
          refine .p rfl rfl (.as rfl) ?_
          refine .nil (.code (.block ?_))
          have hs20 := X20.size
          refine .loop (S := Nat × World) (fun s => [(11, i64 s.1), (0, .slice a b.length cap), (2, .slice am more.length capm), (8, .slice (some ⟨p, 0, none⟩) b.length b.length), (9, .slice (some ⟨q, 0, none⟩) b.length b.length), (10, .slice (some ⟨r, 0, none⟩) b.length b.length), (1, str key), (7, .bool true)]) (fun s => s.2) (fun s => s.1 ≤ b.length ∧ Blk s.2 q 5 ((List.range s.1).map (fun _ => u8 255) ++ List.replicate (b.length - s.1) (u8 0)) ∧ Blk s.2 r 5 ((List.range s.1).map (fun i => u8 (b.getD i 0 ||| more.getD i 0)) ++ List.replicate (b.length - s.1) (u8 0)) ∧ Ext (fun k => k = q ∨ k = r) w45 s.2) (fun s => b.length - s.1) (0, w45) ⟨rfl, rfl, rfl, rfl, rfl, rfl, rfl, rfl, trivial⟩ rfl ⟨Nat.zero_le _, hBq, hBr, .refl _⟩ ?_
          rintro ⟨i, wi⟩ J ⟨hi', hB9, hB10, hX⟩ again
          simp only at hi' hB9 hB10 hX
          refine .seq (.seq (.region ?_))
          refine .p rfl rfl (.mv rfl) ?_
          refine .p rfl rfl (.mv rfl) ?_
          refine .p rfl rfl (.len rfl rfl) ?_
          refine .p rfl rfl (.lt rfl rfl) ?_
          refine .nil (.code (.keep [(49, _), (11, _), (0, _), (2, _), (8, _), (9, _), (10, _), (1, _), (7, _)] ⟨rfl, rfl, rfl, rfl, rfl, rfl, rfl, rfl, rfl, trivial⟩ ?_))
          refine .condD rfl (fun c49 => ?_) (fun c49 => ?_)
          · have hi : i < b.length := by omega
            obtain ⟨bb, bo, rfl, _, hcb⟩ := Sl.byteAt h hi
            have hlt : bb < w.heap.size := World.block_lt_of_cell? w _ hcb
            have hcbi := hX.cell ((X20.trans Z45).cell hcb (fun x => x)) (by show ¬ (bb = q ∨ bb = r); omega)
            have hget : b.getD i 0 = b[i] := by rw [List.getD, List.getElem?_eq_getElem hi]; rfl
            have f9 := fill_set (fun _ => u8 255) (u8 0) b.length i hi
            have f10 := fill_set (fun i => u8 (b.getD i 0 ||| more.getD i 0)) (u8 0) b.length i hi
            refine .skip (.code (.seq (.block (.seq (.keep [(11, _), (0, _), (2, _), (8, _), (9, _), (10, _), (1, _), (7, _)] ⟨rfl, rfl, rfl, rfl, rfl, rfl, rfl, rfl, trivial⟩ (.region ?_))))))
            refine .p rfl rfl (.mv rfl) ?_
            refine .p rfl rfl (.mv rfl) ?_
            refine .p rfl rfl (.indexAddr0 rfl rfl rfl rfl (by omega)) ?_
            refine .s rfl (.store rfl rfl rfl rfl rfl hB9 (by simp; omega)) ?_
            intro w54 P54
            have hB9' := P54.blk
            have hcb54 := P54.ext.cell hcbi (by show ¬ bb = q; omega)
            have hB10' := hB10.ext P54.ext (by show ¬ r = q; omega)
            refine .nil (.code (.seq (.keep [(11, _), (0, _), (2, _), (8, _), (9, _), (10, _), (1, _), (7, _)] ⟨rfl, rfl, rfl, rfl, rfl, rfl, rfl, rfl, trivial⟩ (.region ?_))))
            refine .p rfl rfl (.mv rfl) ?_
            refine .p rfl rfl (.mv rfl) ?_
            refine .p rfl rfl (.mv rfl) ?_
            refine .p rfl rfl (.mv rfl) ?_
            refine .p rfl rfl (.indexAddr1 rfl rfl rfl rfl (by omega)) ?_
            refine .p rfl rfl (.load rfl rfl rfl hcb54) ?_
            refine .p rfl rfl (.indexAddr0 rfl rfl rfl rfl (by omega)) ?_
            refine .s rfl (.store rfl rfl rfl rfl rfl hB10' (by simp; omega)) ?_
            intro w61 P61
            have hB10'' := P61.blk
            have hcb61 := P61.ext.cell hcb54 (by show ¬ bb = r; omega)
            have hB9'' := hB9'.ext P61.ext (by show ¬ q = r; omega)
            have hX61 := hX.trans ((P54.ext.mono (fun _ _ e => Or.inl e)).trans (P61.ext.mono (fun _ _ e => Or.inr e)))
            refine .nil (.code (.seq (.keep [(11, _), (0, _), (2, _), (8, _), (9, _), (10, _), (1, _), (7, _)] ⟨rfl, rfl, rfl, rfl, rfl, rfl, rfl, rfl, trivial⟩ (.region ?_))))
            refine .p rfl rfl (.mv rfl) ?_
            refine .p rfl rfl (.mv rfl) ?_
            refine .p rfl rfl (.len rfl rfl) ?_
            refine .p rfl rfl (.lt rfl rfl) ?_
            refine .nil (.code (.keep [(65, _), (11, _), (0, _), (2, _), (8, _), (9, _), (10, _), (1, _), (7, _)] ⟨rfl, rfl, rfl, rfl, rfl, rfl, rfl, rfl, rfl, trivial⟩ ?_))
            refine .condD rfl (fun c65 => ?_) (fun c65 => ?_)
            · have hj : i < more.length := by omega
              obtain ⟨mb, mo, rfl, _, hcm⟩ := Sl.byteAt hm hj
              have hltm : mb < w.heap.size := World.block_lt_of_cell? w _ hcm
              have hcm61 := hX61.cell ((X20.trans Z45).cell hcm (fun x => x)) (by show ¬ (mb = q ∨ mb = r); omega)
              have hgetm : more.getD i 0 = more[i] := by rw [List.getD, List.getElem?_eq_getElem hj]; rfl
              refine .keep [(11, _), (0, _), (2, _), (8, _), (9, _), (10, _), (1, _), (7, _)] ⟨rfl, rfl, rfl, rfl, rfl, rfl, rfl, rfl, trivial⟩ (.mix ((· = r)) [12] (by kernel_rfl) (by kernel_rfl) (by kernel_rfl) ?_)
              refine .p rfl rfl rfl (fun wx hx => .mv rfl) ?_
              refine .p rfl rfl rfl (fun wx hx => .mv rfl) ?_
              refine .p rfl rfl rfl (fun wx hx => .mv rfl) ?_
              refine .p rfl rfl rfl (fun wx hx => .mv rfl) ?_
              refine .p rfl rfl rfl (fun wx hx => .indexAddr1 rfl rfl rfl rfl (by omega)) ?_
              refine .p rfl rfl rfl (fun wx hx => .load rfl rfl rfl (hx.cell hcb61 (by show ¬ bb = r; omega))) ?_
              refine .p rfl rfl rfl (fun wx hx => .mv rfl) ?_
              refine .p rfl rfl rfl (fun wx hx => .mv rfl) ?_
              refine .p rfl rfl rfl (fun wx hx => .indexAddr1 rfl rfl rfl rfl (by omega)) ?_
              refine .p rfl rfl rfl (fun wx hx => .load rfl rfl rfl (hx.cell hcm61 (by show ¬ mb = r; omega))) ?_
              refine .p rfl rfl rfl (fun wx hx => .or8 rfl rfl) ?_
              refine .p rfl rfl rfl (fun wx hx => .indexAddr0 rfl rfl rfl rfl (by omega)) ?_
              refine .s rfl rfl (.store rfl rfl rfl rfl rfl hB10'' (by simp; omega)) (by intro w2 P; exact P.ext) ?_
              intro w77 P77
              refine .nil (.blk (.code (.keep [(11, _), (0, _), (2, _), (8, _), (9, _), (10, _), (1, _), (7, _)] ⟨rfl, rfl, rfl, rfl, rfl, rfl, rfl, rfl, trivial⟩ (.region ?_))))
              refine .p rfl rfl (.mv rfl) ?_
              refine .p rfl rfl (.add rfl rfl (by omega)) ?_
              refine .p rfl rfl (.as rfl) ?_
              refine .nil ?_
              refine (again (i + 1, w77) ⟨by show i + 1 ≤ _; omega, ?_, ?_, hX61.trans (P77.ext.mono (fun _ _ e => Or.inr e))⟩ (by show _ - (i + 1) < _ - i; omega)).of ⟨rfl, rfl, rfl, rfl, rfl, rfl, rfl, rfl, trivial⟩
              · show Blk w77 _ _ _
                rw [← f9]
                exact hB9''.ext P77.ext (by show ¬ q = r; omega)
              · show Blk w77 _ _ _
                rw [← f10, hget, hgetm]
                have := P77.blk
                simp only [Int.toNat_natCast] at this
                rwa [List.set_set] at this
            · refine .skip (.blk (.code (.keep [(11, _), (0, _), (2, _), (8, _), (9, _), (10, _), (1, _), (7, _)] ⟨rfl, rfl, rfl, rfl, rfl, rfl, rfl, rfl, trivial⟩ (.region ?_))))
              refine .p rfl rfl (.mv rfl) ?_
              refine .p rfl rfl (.add rfl rfl (by omega)) ?_
              refine .p rfl rfl (.as rfl) ?_
              refine .nil ?_
              have hno : more.getD i 0 = 0 := by rw [List.getD, List.getElem?_eq_none (by omega)]; rfl
              refine (again (i + 1, w61) ⟨by show i + 1 ≤ _; omega, ?_, ?_, hX61⟩ (by show _ - (i + 1) < _ - i; omega)).of ⟨rfl, rfl, rfl, rfl, rfl, rfl, rfl, rfl, trivial⟩
              · show Blk w61 _ _ _
                rw [← f9]
                exact hB9''
              · show Blk w61 _ _ _
                rw [← f10, hget, hno, UInt8.or_zero]
                exact hB10''
          · obtain rfl : i = b.length := by omega
            have hn : 1 ≤ b.length ∧ b.length ≤ 8192 := by omega
            have hk2 : key.length ≤ 256 := by omega
            have Zw : Ext (fun _ => False) w wi := (X20.trans Z45).then hX (by intro k hk _; omega)
            have hz0 : tBytes.rep All wi (.slice (some ⟨p, 0, none⟩) b.length b.length) (List.replicate b.length 0) := by
              have hB := hBp.ext hX (by show ¬ (p = q ∨ p = r); omega)
              exact Sl.mkBytesB hB (by simp [u8]) trivial (by simp) (by simp [Lim]; omega) (by simp)
            have hz1 : tBytes.rep All wi (.slice (some ⟨q, 0, none⟩) b.length b.length) (List.replicate b.length 255) :=
              Sl.mkBytesB hB9 (by simp [List.map_const']) trivial (by simp) (by simp [Lim]; omega) (by simp)
            have hz2 : tBytes.rep All wi (.slice (some ⟨r, 0, none⟩) b.length b.length) (bothL b more) :=
              Sl.mkBytesB hB10 (by rw [List.take_of_length_le (by simp [bothL_length])]; simp [bothL, List.map_map, Function.comp_def]) trivial (by rw [bothL_length]; omega) (by rw [bothL_length]; simp only [Lim]; omega) (by rw [bothL_length])
            refine .exit rfl (.code (.seq (.keep [(0, _), (8, _), (9, _), (10, _), (1, _), (7, _)] ⟨rfl, rfl, rfl, rfl, rfl, rfl, trivial⟩ (.region ?_))))
            refine .p rfl rfl (.mv rfl) ?_
            refine .p rfl rfl (.mv rfl) ?_
            refine .call (first := []) (captured := []) rfl rfl rfl rfl (Has_fn hz0 hk) ?_
            rintro _ w81 ⟨rfl, X81⟩
            rw [has_none hn hk2]
            refine .p rfl rfl (.mv rfl) ?_
            refine .p rfl rfl (.extract rfl rfl) ?_
            refine .p rfl rfl (.extract rfl rfl) ?_
            refine .p rfl rfl (.as rfl) ?_
            refine .p rfl rfl (.as rfl) ?_
            refine .nil (.code (.seq (.keep [(13, _), (12, _), (0, _), (9, _), (10, _), (1, _), (7, _)] ⟨rfl, rfl, rfl, rfl, rfl, rfl, rfl, trivial⟩ (.region ?_))))
            refine .p rfl rfl (.mv rfl) ?_
            refine .p rfl rfl (.mv rfl) ?_
            refine .call (first := []) (captured := []) rfl rfl rfl rfl (Has_fn (tBytes.ext0 hz1 X81) hk) ?_
            rintro _ w87 ⟨rfl, X87⟩
            rw [has_full hn hk2]
            refine .p rfl rfl (.mv rfl) ?_
            refine .p rfl rfl (.extract rfl rfl) ?_
            refine .p rfl rfl (.extract rfl rfl) ?_
            refine .p rfl rfl (.as rfl) ?_
            refine .p rfl rfl (.as rfl) ?_
            refine .nil (.code (.seq (.keep [(15, _), (14, _), (13, _), (12, _), (0, _), (10, _), (1, _), (7, _)] ⟨rfl, rfl, rfl, rfl, rfl, rfl, rfl, rfl, trivial⟩ (.region ?_))))
            refine .p rfl rfl (.mv rfl) ?_
            refine .p rfl rfl (.mv rfl) ?_
            refine .call (first := []) (captured := []) rfl rfl rfl rfl (Has_fn (tBytes.ext0 h (Zw.trans (X81.trans X87))) hk) ?_
            rintro _ w93 ⟨rfl, X93⟩
            refine .p rfl rfl (.mv rfl) ?_
            refine .p rfl rfl (.extract rfl rfl) ?_
            refine .p rfl rfl (.extract rfl rfl) ?_
            refine .p rfl rfl (.as rfl) ?_
            refine .p rfl rfl (.as rfl) ?_
            refine .nil (.code (.seq (.keep [(17, _), (16, _), (15, _), (14, _), (13, _), (12, _), (10, _), (1, _), (7, _)] ⟨rfl, rfl, rfl, rfl, rfl, rfl, rfl, rfl, rfl, trivial⟩ (.region ?_))))
            refine .p rfl rfl (.mv rfl) ?_
            refine .p rfl rfl (.mv rfl) ?_
            refine .call (first := []) (captured := []) rfl rfl rfl rfl (Has_fn (tBytes.ext0 hz2 (X81.trans (X87.trans X93))) hk) ?_
            rintro _ w99 ⟨rfl, X99⟩
            refine .p rfl rfl (.mv rfl) ?_
            refine .p rfl rfl (.extract rfl rfl) ?_
            refine .p rfl rfl (.extract rfl rfl) ?_
            refine .p rfl rfl (.as rfl) ?_
            refine .p rfl rfl (.as rfl) ?_
            refine .nil (.code (.seq (.keep [(19, _), (18, _), (17, _), (16, _), (15, _), (14, _), (13, _), (12, _), (7, _)] ⟨rfl, rfl, rfl, rfl, rfl, rfl, rfl, rfl, rfl, trivial⟩ (.region ?_))))
            refine .p rfl rfl (.mv rfl) ?_
            refine .p rfl rfl (.mv rfl) ?_
            refine .p rfl rfl (.mv rfl) ?_
            refine .p rfl rfl (.yes (.eq rfl rfl) (rfl)) ?_
            refine .p rfl rfl (.pickT rfl rfl) ?_
            refine .p rfl rfl (.mv rfl) ?_
            refine .p rfl rfl (.mv rfl) ?_
            refine .p rfl rfl (.not rfl) ?_
            refine .p rfl rfl (.pickT rfl rfl) ?_
            refine .p rfl rfl (.mv rfl) ?_
            refine .p rfl rfl (.mv rfl) ?_
            refine .p rfl rfl (.yes (.eq rfl rfl) (rfl)) ?_
            refine .p rfl rfl (.pickT rfl rfl) ?_
            refine .p rfl rfl (.mv rfl) ?_
            refine .p rfl rfl (.mv rfl) ?_
            refine .p rfl rfl (.pickT rfl rfl) ?_
            refine .p rfl rfl (.mv rfl) ?_
            refine .p rfl rfl (.mv rfl) ?_
            refine .p rfl rfl (.yes (.eq rfl rfl) (by rw [has_code hn hk2])) ?_
            refine .p rfl rfl (.pickT rfl rfl) ?_
            refine .p rfl rfl (.mv rfl) ?_
            refine .p rfl rfl (.mv rfl) ?_
            refine .p rfl rfl (.yes (.eq rfl rfl) (by rw [has_code (by rw [bothL_length]; exact hn) hk2])) ?_
            refine .p rfl rfl (.pickT rfl rfl) ?_
            refine .p rfl rfl (.mv rfl) ?_
            refine .p rfl rfl (.mv rfl) ?_
            refine .p rfl rfl (.not rfl) ?_
            refine .p rfl rfl (.mv rfl) ?_
            refine .case 129 rfl (fun c129 => ?_) (fun c129 => ?_)
            · refine .skip rfl rfl ?_
              refine .p rfl rfl (.pickT rfl rfl) ?_
              refine .p rfl rfl (.pickT rfl rfl) ?_
              refine .p rfl rfl (.as rfl) ?_
              refine .nil (.code ?_)
              refine .ret _ rfl ?_
              exact ⟨rfl, Zw.trans (X81.trans (X87.trans (X93.trans X99)))⟩
            · refine .p rfl rfl (.mv rfl) ?_
              refine .p rfl rfl (.pickF rfl rfl) ?_
              refine .p rfl rfl (.pickT rfl rfl) ?_
              refine .p rfl rfl (.as rfl) ?_
              refine .nil (.code ?_)
              refine .ret _ rfl ?_
              refine ⟨?_, Zw.trans (X81.trans (X87.trans (X93.trans X99)))⟩
              have hz : (hasF b key).1 = true := by revert c129; cases (hasF b key).1 <;> simp
              show Value.bool (hasF (bothL b more) key).1 = _
              rw [has_more (bothL_length b more) (bothL_get b more) hz]
        · intro meet
          refine .tree (False1) [2, 5, 8] (.op 0 (.op 1 (.op 3 (.op 4 (.op 6 (.op 7 (.alt 2 (.op 2 (.op 9 (.alt 5 (.op 5 (.op 10 (.alt 8 (.op 8 (.op 11 (.nil))) (.stop)))) (.alt 8 (.op 8 (.alt 5 (.op 5 (.op 10 (.op 11 (.nil)))) (.stop))) (.stop))))) (.alt 5 (.op 5 (.alt 2 (.op 2 (.op 9 (.op 10 (.alt 8 (.op 8 (.op 11 (.nil))) (.stop))))) (.alt 8 (.op 8 (.alt 2 (.op 2 (.op 9 (.op 10 (.op 11 (.nil))))) (.stop))) (.stop)))) (.alt 8 (.op 8 (.alt 2 (.op 2 (.op 9 (.alt 5 (.op 5 (.op 10 (.op 11 (.nil)))) (.stop)))) (.alt 5 (.op 5 (.alt 2 (.op 2 (.op 9 (.op 10 (.op 11 (.nil))))) (.stop))) (.stop)))) (.stop)))))))))) (by kernel_rfl) (by kernel_rfl) (by kernel_rfl) ?_
          refine .p rfl rfl rfl rfl (fun wx hx => .mv rfl) ?_
          refine .p rfl rfl rfl rfl (fun wx hx => .len rfl rfl) ?_
          refine .p rfl rfl rfl rfl (fun wx hx => .mv rfl) ?_
          refine .p rfl rfl rfl rfl (fun wx hx => .len rfl rfl) ?_
          refine .p rfl rfl rfl rfl (fun wx hx => .mv rfl) ?_
          refine .p rfl rfl rfl rfl (fun wx hx => .len rfl rfl) ?_
          refine .alt ?_ ?_
          · refine .v rfl rfl rfl rfl (.make (eb := 1) rfl rfl rfl rfl rfl rfl rfl rfl (by omega)) (by rintro _ _ ⟨_, hN⟩; exact ((Ext.refl _)).trans hN.ext0) ?_
            rintro _ w39 ⟨rfl, N39⟩
            have hX39 : Ext (False1) _ _ := (Ext.refl _).trans (N39.ext0)
            refine .p rfl rfl rfl rfl (fun wx hx => .as rfl) ?_
            refine .alt ?_ ?_
            · refine .v rfl rfl rfl rfl (.make (eb := 1) rfl rfl rfl rfl rfl rfl rfl rfl (by omega)) (by rintro _ _ ⟨_, hN⟩; exact hX39.trans hN.ext0) ?_
              rintro _ w42 ⟨rfl, N42⟩
              have hX42 : Ext (False1) _ _ := hX39.trans (N42.ext0)
              refine .p rfl rfl rfl rfl (fun wx hx => .as rfl) ?_
              refine .alt ?_ ?_
              · refine .v rfl rfl rfl rfl (.make (eb := 1) rfl rfl rfl rfl rfl rfl rfl rfl (by omega)) (by rintro _ _ ⟨_, hN⟩; exact hX42.trans hN.ext0) ?_
                rintro _ w45 ⟨rfl, N45⟩
                have hX45 : Ext (False1) _ _ := hX42.trans (N45.ext0)
                refine .p rfl rfl rfl rfl (fun wx hx => .as rfl) ?_
                refine .nil ?_
                have s1 := N39.size
                have s2 := N42.size
                have s3 := N45.size
                exact (meet (w20.heap.size, w39.heap.size, w42.heap.size, w45) ⟨(N39.blk.ext N42.ext (fun x => x)).ext N45.ext (fun x => x), N42.blk.ext N45.ext (fun x => x), N45.blk, N39.ext.trans (N42.ext.trans N45.ext), by show w20.heap.size ≠ w39.heap.size; omega, by show w20.heap.size ≠ w42.heap.size; omega, by show w39.heap.size ≠ w42.heap.size; omega, by show w20.heap.size ≤ w20.heap.size; omega, by show w20.heap.size ≤ w39.heap.size; omega, by show w20.heap.size ≤ w42.heap.size; omega⟩).of ⟨rfl, rfl, rfl, rfl, rfl, rfl, rfl, trivial⟩
              exact .stop
            refine .alt ?_ ?_
            · refine .v rfl rfl rfl rfl (.make (eb := 1) rfl rfl rfl rfl rfl rfl rfl rfl (by omega)) (by rintro _ _ ⟨_, hN⟩; exact hX39.trans hN.ext0) ?_
              rintro _ w45 ⟨rfl, N45⟩
              have hX45 : Ext (False1) _ _ := hX39.trans (N45.ext0)
              refine .alt ?_ ?_
              · refine .v rfl rfl rfl rfl (.make (eb := 1) rfl rfl rfl rfl rfl rfl rfl rfl (by omega)) (by rintro _ _ ⟨_, hN⟩; exact hX45.trans hN.ext0) ?_
                rintro _ w42 ⟨rfl, N42⟩
                have hX42 : Ext (False1) _ _ := hX45.trans (N42.ext0)
                refine .p rfl rfl rfl rfl (fun wx hx => .as rfl) ?_
                refine .p rfl rfl rfl rfl (fun wx hx => .as rfl) ?_
                refine .nil ?_
                have s1 := N39.size
                have s2 := N42.size
                have s3 := N45.size
                exact (meet (w20.heap.size, w45.heap.size, w39.heap.size, w42) ⟨(N39.blk.ext N45.ext (fun x => x)).ext N42.ext (fun x => x), N42.blk, N45.blk.ext N42.ext (fun x => x), N39.ext.trans (N45.ext.trans N42.ext), by show w20.heap.size ≠ w45.heap.size; omega, by show w20.heap.size ≠ w39.heap.size; omega, by show w45.heap.size ≠ w39.heap.size; omega, by show w20.heap.size ≤ w20.heap.size; omega, by show w20.heap.size ≤ w45.heap.size; omega, by show w20.heap.size ≤ w39.heap.size; omega⟩).of ⟨rfl, rfl, rfl, rfl, rfl, rfl, rfl, trivial⟩
              exact .stop
            exact .stop
          refine .alt ?_ ?_
          · refine .v rfl rfl rfl rfl (.make (eb := 1) rfl rfl rfl rfl rfl rfl rfl rfl (by omega)) (by rintro _ _ ⟨_, hN⟩; exact ((Ext.refl _)).trans hN.ext0) ?_
            rintro _ w42 ⟨rfl, N42⟩
            have hX42 : Ext (False1) _ _ := (Ext.refl _).trans (N42.ext0)
            refine .alt ?_ ?_
            · refine .v rfl rfl rfl rfl (.make (eb := 1) rfl rfl rfl rfl rfl rfl rfl rfl (by omega)) (by rintro _ _ ⟨_, hN⟩; exact hX42.trans hN.ext0) ?_
              rintro _ w39 ⟨rfl, N39⟩
              have hX39 : Ext (False1) _ _ := hX42.trans (N39.ext0)
              refine .p rfl rfl rfl rfl (fun wx hx => .as rfl) ?_
              refine .p rfl rfl rfl rfl (fun wx hx => .as rfl) ?_
              refine .alt ?_ ?_
              · refine .v rfl rfl rfl rfl (.make (eb := 1) rfl rfl rfl rfl rfl rfl rfl rfl (by omega)) (by rintro _ _ ⟨_, hN⟩; exact hX39.trans hN.ext0) ?_
                rintro _ w45 ⟨rfl, N45⟩
                have hX45 : Ext (False1) _ _ := hX39.trans (N45.ext0)
                refine .p rfl rfl rfl rfl (fun wx hx => .as rfl) ?_
                refine .nil ?_
                have s1 := N39.size
                have s2 := N42.size
                have s3 := N45.size
                exact (meet (w42.heap.size, w20.heap.size, w39.heap.size, w45) ⟨N39.blk.ext N45.ext (fun x => x), (N42.blk.ext N39.ext (fun x => x)).ext N45.ext (fun x => x), N45.blk, N42.ext.trans (N39.ext.trans N45.ext), by show w42.heap.size ≠ w20.heap.size; omega, by show w42.heap.size ≠ w39.heap.size; omega, by show w20.heap.size ≠ w39.heap.size; omega, by show w20.heap.size ≤ w42.heap.size; omega, by show w20.heap.size ≤ w20.heap.size; omega, by show w20.heap.size ≤ w39.heap.size; omega⟩).of ⟨rfl, rfl, rfl, rfl, rfl, rfl, rfl, trivial⟩
              exact .stop
            refine .alt ?_ ?_
            · refine .v rfl rfl rfl rfl (.make (eb := 1) rfl rfl rfl rfl rfl rfl rfl rfl (by omega)) (by rintro _ _ ⟨_, hN⟩; exact hX42.trans hN.ext0) ?_
              rintro _ w45 ⟨rfl, N45⟩
              have hX45 : Ext (False1) _ _ := hX42.trans (N45.ext0)
              refine .alt ?_ ?_
              · refine .v rfl rfl rfl rfl (.make (eb := 1) rfl rfl rfl rfl rfl rfl rfl rfl (by omega)) (by rintro _ _ ⟨_, hN⟩; exact hX45.trans hN.ext0) ?_
                rintro _ w39 ⟨rfl, N39⟩
                have hX39 : Ext (False1) _ _ := hX45.trans (N39.ext0)
                refine .p rfl rfl rfl rfl (fun wx hx => .as rfl) ?_
                refine .p rfl rfl rfl rfl (fun wx hx => .as rfl) ?_
                refine .p rfl rfl rfl rfl (fun wx hx => .as rfl) ?_
                refine .nil ?_
                have s1 := N39.size
                have s2 := N42.size
                have s3 := N45.size
                exact (meet (w45.heap.size, w20.heap.size, w42.heap.size, w39) ⟨N39.blk, (N42.blk.ext N45.ext (fun x => x)).ext N39.ext (fun x => x), N45.blk.ext N39.ext (fun x => x), N42.ext.trans (N45.ext.trans N39.ext), by show w45.heap.size ≠ w20.heap.size; omega, by show w45.heap.size ≠ w42.heap.size; omega, by show w20.heap.size ≠ w42.heap.size; omega, by show w20.heap.size ≤ w45.heap.size; omega, by show w20.heap.size ≤ w20.heap.size; omega, by show w20.heap.size ≤ w42.heap.size; omega⟩).of ⟨rfl, rfl, rfl, rfl, rfl, rfl, rfl, trivial⟩
              exact .stop
            exact .stop
          refine .alt ?_ ?_
          · refine .v rfl rfl rfl rfl (.make (eb := 1) rfl rfl rfl rfl rfl rfl rfl rfl (by omega)) (by rintro _ _ ⟨_, hN⟩; exact ((Ext.refl _)).trans hN.ext0) ?_
            rintro _ w45 ⟨rfl, N45⟩
            have hX45 : Ext (False1) _ _ := (Ext.refl _).trans (N45.ext0)
            refine .alt ?_ ?_
            · refine .v rfl rfl rfl rfl (.make (eb := 1) rfl rfl rfl rfl rfl rfl rfl rfl (by omega)) (by rintro _ _ ⟨_, hN⟩; exact hX45.trans hN.ext0) ?_
              rintro _ w39 ⟨rfl, N39⟩
              have hX39 : Ext (False1) _ _ := hX45.trans (N39.ext0)
              refine .p rfl rfl rfl rfl (fun wx hx => .as rfl) ?_
              refine .alt ?_ ?_
              · refine .v rfl rfl rfl rfl (.make (eb := 1) rfl rfl rfl rfl rfl rfl rfl rfl (by omega)) (by rintro _ _ ⟨_, hN⟩; exact hX39.trans hN.ext0) ?_
                rintro _ w42 ⟨rfl, N42⟩
                have hX42 : Ext (False1) _ _ := hX39.trans (N42.ext0)
                refine .p rfl rfl rfl rfl (fun wx hx => .as rfl) ?_
                refine .p rfl rfl rfl rfl (fun wx hx => .as rfl) ?_
                refine .nil ?_
                have s1 := N39.size
                have s2 := N42.size
                have s3 := N45.size
                exact (meet (w45.heap.size, w39.heap.size, w20.heap.size, w42) ⟨N39.blk.ext N42.ext (fun x => x), N42.blk, (N45.blk.ext N39.ext (fun x => x)).ext N42.ext (fun x => x), N45.ext.trans (N39.ext.trans N42.ext), by show w45.heap.size ≠ w39.heap.size; omega, by show w45.heap.size ≠ w20.heap.size; omega, by show w39.heap.size ≠ w20.heap.size; omega, by show w20.heap.size ≤ w45.heap.size; omega, by show w20.heap.size ≤ w39.heap.size; omega, by show w20.heap.size ≤ w20.heap.size; omega⟩).of ⟨rfl, rfl, rfl, rfl, rfl, rfl, rfl, trivial⟩
              exact .stop
            refine .alt ?_ ?_
            · refine .v rfl rfl rfl rfl (.make (eb := 1) rfl rfl rfl rfl rfl rfl rfl rfl (by omega)) (by rintro _ _ ⟨_, hN⟩; exact hX45.trans hN.ext0) ?_
              rintro _ w42 ⟨rfl, N42⟩
              have hX42 : Ext (False1) _ _ := hX45.trans (N42.ext0)
              refine .alt ?_ ?_
              · refine .v rfl rfl rfl rfl (.make (eb := 1) rfl rfl rfl rfl rfl rfl rfl rfl (by omega)) (by rintro _ _ ⟨_, hN⟩; exact hX42.trans hN.ext0) ?_
                rintro _ w39 ⟨rfl, N39⟩
                have hX39 : Ext (False1) _ _ := hX42.trans (N39.ext0)
                refine .p rfl rfl rfl rfl (fun wx hx => .as rfl) ?_
                refine .p rfl rfl rfl rfl (fun wx hx => .as rfl) ?_
                refine .p rfl rfl rfl rfl (fun wx hx => .as rfl) ?_
                refine .nil ?_
                have s1 := N39.size
                have s2 := N42.size
                have s3 := N45.size
                exact (meet (w42.heap.size, w45.heap.size, w20.heap.size, w39) ⟨N39.blk, N42.blk.ext N39.ext (fun x => x), (N45.blk.ext N42.ext (fun x => x)).ext N39.ext (fun x => x), N45.ext.trans (N42.ext.trans N39.ext), by show w42.heap.size ≠ w45.heap.size; omega, by show w42.heap.size ≠ w20.heap.size; omega, by show w45.heap.size ≠ w20.heap.size; omega, by show w20.heap.size ≤ w42.heap.size; omega, by show w20.heap.size ≤ w45.heap.size; omega, by show w20.heap.size ≤ w20.heap.size; omega⟩).of ⟨rfl, rfl, rfl, rfl, rfl, rfl, rfl, trivial⟩
              exact .stop
            exact .stop
          exact .stop
end Go.Proofs.Ytookkbceboccjaa
