
/-
  LogTorn: walked.
-/
import Derived.Test.YtapdacjpmmjlhaaLaw05e
set_option linter.unusedVariables false
set_option linter.unusedSimpArgs false
set_option maxRecDepth 20000
namespace Go.Proofs.Ytapdacjpmmjlhaa
open Go disk log
namespace log
theorem str_len {N : Nat → Bs} {a : Nat} {l : List (Bs × Bool)} {acts : List disk.Act} (h : Str N a l acts) : (∀ q, a ≤ q → q < a + tot (l.map (·.1)) → (N q).length = 128) → ∀ b ∈ acts, b.flush = false → b.put.data.length = 128 := by
  induction h with
  | nil => intro _ b hb; cases hb
  | @cons a r fl l acts _ ih =>
    intro hN b hb hf
    simp only [List.map_cons, tot] at hN
    rcases List.mem_append.1 hb with hb | hb
    · rcases List.mem_append.1 hb with hb | hb
      · unfold putsOf at hb
        obtain ⟨i, hi, rfl⟩ := List.mem_map.1 hb
        have := List.mem_range.1 hi
        exact hN _ (by omega) (by omega)
      · cases fl with
        | false => rw [if_neg (by decide)] at hb; cases hb
        | true =>
          rw [if_pos rfl, List.mem_singleton] at hb
          rw [hb] at hf
          cases hf
    · exact ih (fun q q1 q2 => hN q (by omega) (by omega)) b hb hf
theorem addL_len {d : Disk} {l : List (Bs × Bool)} {acts : List disk.Act} (hst : (stateF d).2 = 0) (hA : addL d l = (acts, true)) (hw : d.waits = []) (hl : l.length ≤ 12) : ∀ b ∈ acts, b.flush = false → b.put.data.length = 128 := by
  obtain ⟨N, h1, h2⟩ := adds_of hst hA (by rw [hw]; simp; omega)
  exact str_len h2 (adds_len h1)
/-- what is lost, in the terms of the statements -/
theorem lost' {d : Disk} {l : List Bs} {fs : List Bool} (hst : (stateF d).2 = 0) (hA : (addL d (flagsAt fs 0 l)).2 = true) (hw : d.waits = []) (hl : l.length ≤ 12) {n : Nat} (hn : n ≤ (addL d (flagsAt fs 0 l)).1.length) (ks : List Bool) :
    ∃ x y m, doF d ((addL d (flagsAt fs 0 l)).1.take n) = (x, 0) ∧ crashF x ks = (y, 0) ∧ y.waits = [] ∧ (stateF y).2 = 0 ∧ m ≤ l.length ∧ (stateF y).1.recs = (stateF d).1.recs ++ l.take m ∧ sureF ((addL d (flagsAt fs 0 l)).1.take n) ≤ m := by
  obtain ⟨x, y, m, h1, h2, h3, h4, h5, h6, h7⟩ := lost (l := flagsAt fs 0 l) (acts := (addL d (flagsAt fs 0 l)).1) hst (Prod.ext rfl hA) hw (by rw [flags_length]; exact hl) hn ks
  rw [flags_length] at h5
  rw [flags_map] at h6
  rw [cnt_sure] at h7
  exact ⟨x, y, m, h1, h2, h3, h4, h5, h6, h7⟩
end log
theorem LogTorn_fn {w : World} {v vl vf vk : Value} {d : Disk} {l : List Bs} {fs ks : List Bool} {n : Int} (h : tDisk.rep All w v d) (hl : tStrs.rep All w vl l) (hf : (Sl tBool).rep All w vf fs) (hk : (Sl tBool).rep All w vk ks) : Fn Try.prog 8 [v, vl, vf, i64 n, vk] w (fun r w2 => r = .bool true ∧ Ext (fun _ => False) w w2) := by
  have R3 := tDisk.mono h (P' := fun k => k < w.heap.size) (fun k _ h => h)
  obtain ⟨u1, q1, u2, q2, rfl⟩ := disk_shape h
  have hlb := tStrs.mono hl (P' := fun k => k < w.heap.size) (fun k _ h => h)
  have hfb := (Sl tBool).mono hf (P' := fun k => k < w.heap.size) (fun k _ h => h)
  have hkb := (Sl tBool).mono hk (P' := fun k => k < w.heap.size) (fun k _ h => h)
  obtain ⟨al, capl, rfl, hcapl⟩ := Sl.val hl
  obtain ⟨af, capf, rfl, hcapf⟩ := Sl.val hf
  obtain ⟨ak, capk, rfl, hcapk⟩ := Sl.val hk
  refine Fn.enter (fun w => Try.call8 _ w) Try.func8 rfl ?_
  refine .seq (.region ?_)
  refine .v rfl rfl (.box rfl) ?_
  rintro _ w5 ⟨rfl, N5⟩
  have X5 := N5.ext
  have z5 := N5.size
  have B5 := N5.blk
  refine .p rfl rfl (.as rfl) ?_
  refine .nil (.code (.seq (.keep [(5, _), (1, _), (2, _), (3, _), (4, _)] ⟨rfl, rfl, rfl, rfl, rfl, trivial⟩ (.region ?_))))
  refine .call (first := []) (captured := []) rfl rfl rfl rfl (alive_fn) ?_
  rintro _ w23 ⟨rfl, X23⟩
  have z23 := X23.size
  refine .p rfl rfl (.as rfl) ?_
  refine .nil (.code (.seq (.seq (.keep [(11, _), (5, _), (1, _), (2, _), (3, _), (4, _)] ⟨rfl, rfl, rfl, rfl, rfl, rfl, trivial⟩ (.region ?_)))))
  refine .p rfl rfl (.mv rfl) ?_
  refine .p rfl rfl (.not rfl) ?_
  refine .nil (.code (.keep [(25, _), (11, _), (5, _), (1, _), (2, _), (3, _), (4, _)] ⟨rfl, rfl, rfl, rfl, rfl, rfl, rfl, trivial⟩ (.condF rfl (.skip (.code (.seq (.seq (.keep [(11, _), (5, _), (1, _), (2, _), (3, _), (4, _)] ⟨rfl, rfl, rfl, rfl, rfl, rfl, trivial⟩ (.region ?_)))))))))
  refine .p rfl rfl (.loadA (n := 3) rfl rfl rfl rfl rfl (B5.ext (S := fun _ => False) (by repeat (first | exact Ext.refl _ | assumption | refine Ext.trans (by assumption) ?_)) (fun x => x)).cells) ?_
  refine .call (first := []) (captured := []) rfl rfl rfl rfl (largeL_fn (allOf (tDisk.ext0 R3 (by repeat (first | exact Ext.refl _ | assumption | refine Ext.trans (by assumption) ?_))))) ?_
  rintro _ w27 ⟨rfl, X27⟩
  have z27 := X27.size
  refine .p rfl rfl (.mv rfl) ?_
  refine .case 28 rfl (fun c28 => ?_) (fun c28 => ?_)
  · refine .skip rfl rfl ?_
    refine .skip rfl rfl ?_
    refine .skip rfl rfl ?_
    refine .skip rfl rfl ?_
    refine .p rfl rfl (.pickT rfl rfl) ?_
    refine .p rfl rfl (.mv rfl) ?_
    refine .skip rfl rfl ?_
    refine .skip rfl rfl ?_
    refine .skip rfl rfl ?_
    refine .p rfl rfl (.pickT rfl rfl) ?_
    refine .p rfl rfl (.mv rfl) ?_
    refine .skip rfl rfl ?_
    refine .skip rfl rfl ?_
    refine .skip rfl rfl ?_
    refine .p rfl rfl (.pickT rfl rfl) ?_
    refine .nil (.code (.keep [(43, _), (11, _), (5, _), (1, _), (2, _), (3, _), (4, _)] ⟨rfl, rfl, rfl, rfl, rfl, rfl, rfl, trivial⟩ (.condT rfl (.seq (.keep [(11, _)] ⟨rfl, trivial⟩ (.region ?_))))))
    refine .p rfl rfl (.mv rfl) ?_
    refine .p rfl rfl (.as rfl) ?_
    refine .nil (.code ?_)
    refine .ret _ rfl ?_
    exact ⟨rfl, (by repeat (first | exact Ext.refl _ | assumption | refine Ext.trans (by assumption) ?_))⟩
  · refine .p rfl rfl (.fieldAddr rfl rfl rfl rfl) ?_
    refine .p rfl rfl (.load rfl rfl rfl ((B5.ext (S := fun _ => False) (by repeat (first | exact Ext.refl _ | assumption | refine Ext.trans (by assumption) ?_)) (fun x => x)).cell 2)) ?_
    refine .p rfl rfl (.len rfl rfl) ?_
    refine .p rfl rfl (.gt rfl rfl) ?_
    refine .p rfl rfl (.pickF rfl rfl) ?_
    refine .p rfl rfl (.mv rfl) ?_
    refine .caseD 34 rfl (fun c34 => ?_) (fun c34 => ?_)
    · refine .skip rfl rfl ?_
      refine .skip rfl rfl ?_
      refine .skip rfl rfl ?_
      refine .p rfl rfl (.pickT rfl rfl) ?_
      refine .p rfl rfl (.mv rfl) ?_
      refine .skip rfl rfl ?_
      refine .skip rfl rfl ?_
      refine .skip rfl rfl ?_
      refine .p rfl rfl (.pickT rfl rfl) ?_
      refine .nil (.code (.keep [(43, _), (11, _), (5, _), (1, _), (2, _), (3, _), (4, _)] ⟨rfl, rfl, rfl, rfl, rfl, rfl, rfl, trivial⟩ (.condT rfl (.seq (.keep [(11, _)] ⟨rfl, trivial⟩ (.region ?_))))))
      refine .p rfl rfl (.mv rfl) ?_
      refine .p rfl rfl (.as rfl) ?_
      refine .nil (.code ?_)
      refine .ret _ rfl ?_
      exact ⟨rfl, (by repeat (first | exact Ext.refl _ | assumption | refine Ext.trans (by assumption) ?_))⟩
    · refine .p rfl rfl (.mv rfl) ?_
      refine .p rfl rfl (.len rfl rfl) ?_
      refine .p rfl rfl (.gt rfl rfl) ?_
      refine .p rfl rfl (.pickF rfl rfl) ?_
      refine .p rfl rfl (.mv rfl) ?_
      refine .caseD 39 rfl (fun c39 => ?_) (fun c39 => ?_)
      · refine .skip rfl rfl ?_
        refine .skip rfl rfl ?_
        refine .skip rfl rfl ?_
        refine .p rfl rfl (.pickT rfl rfl) ?_
        refine .nil (.code (.keep [(43, _), (11, _), (5, _), (1, _), (2, _), (3, _), (4, _)] ⟨rfl, rfl, rfl, rfl, rfl, rfl, rfl, trivial⟩ (.condT rfl (.seq (.keep [(11, _)] ⟨rfl, trivial⟩ (.region ?_))))))
        refine .p rfl rfl (.mv rfl) ?_
        refine .p rfl rfl (.as rfl) ?_
        refine .nil (.code ?_)
        refine .ret _ rfl ?_
        exact ⟨rfl, (by repeat (first | exact Ext.refl _ | assumption | refine Ext.trans (by assumption) ?_))⟩
      · refine .p rfl rfl (.mv rfl) ?_
        refine .p rfl rfl (.len rfl rfl) ?_
        refine .p rfl rfl (.gt rfl rfl) ?_
        refine .p rfl rfl (.pickF rfl rfl) ?_
        refine .nil (.code (.keep [(43, _), (11, _), (5, _), (1, _), (2, _), (3, _), (4, _)] ⟨rfl, rfl, rfl, rfl, rfl, rfl, rfl, trivial⟩ ?_))
        refine .condD rfl (fun c43 => ?_) (fun c43 => ?_)
        · refine .seq (.keep [(11, _)] ⟨rfl, trivial⟩ (.region ?_))
          refine .p rfl rfl (.mv rfl) ?_
          refine .p rfl rfl (.as rfl) ?_
          refine .nil (.code ?_)
          refine .ret _ rfl ?_
          exact ⟨rfl, (by repeat (first | exact Ext.refl _ | assumption | refine Ext.trans (by assumption) ?_))⟩
        · refine .skip (.code (.seq (.keep [(11, _), (5, _), (1, _), (2, _), (3, _), (4, _)] ⟨rfl, rfl, rfl, rfl, rfl, rfl, trivial⟩ (.region ?_))))
          refine .p rfl rfl (.loadA (n := 3) rfl rfl rfl rfl rfl (B5.ext (S := fun _ => False) (by repeat (first | exact Ext.refl _ | assumption | refine Ext.trans (by assumption) ?_)) (fun x => x)).cells) ?_
          refine .call (first := []) (captured := []) rfl rfl rfl rfl (Records_fn (allOf (tDisk.ext0 R3 (by repeat (first | exact Ext.refl _ | assumption | refine Ext.trans (by assumption) ?_))))) ?_
          rintro _ w47 ⟨v47, rfl, R47, X47⟩
          have z47 := X47.size
          have R47 := tStrs.mono R47 (P' := fun k => k < w47.heap.size) (fun k _ h => h)
          obtain ⟨a47, c47, rfl, _⟩ := Sl.val R47
          refine .p rfl rfl (.mv rfl) ?_
          refine .p rfl rfl (.extract rfl rfl) ?_
          refine .p rfl rfl (.extract rfl rfl) ?_
          refine .p rfl rfl (.as rfl) ?_
          refine .p rfl rfl (.as rfl) ?_
          refine .nil (.code (.seq (.keep [(13, _), (12, _), (11, _), (5, _), (1, _), (2, _), (3, _), (4, _)] ⟨rfl, rfl, rfl, rfl, rfl, rfl, rfl, rfl, trivial⟩ (.region ?_))))
          refine .p rfl rfl (.loadA (n := 3) rfl rfl rfl rfl rfl (B5.ext (S := fun _ => False) (by repeat (first | exact Ext.refl _ | assumption | refine Ext.trans (by assumption) ?_)) (fun x => x)).cells) ?_
          refine .p rfl rfl (.mv rfl) ?_
          refine .p rfl rfl (.mv rfl) ?_
          refine .call (first := []) (captured := []) rfl rfl rfl rfl (added_fn (allOf (tDisk.ext0 R3 (by repeat (first | exact Ext.refl _ | assumption | refine Ext.trans (by assumption) ?_)))) (allOf (tStrs.ext0 hlb (by repeat (first | exact Ext.refl _ | assumption | refine Ext.trans (by assumption) ?_)))) (allOf ((Sl tBool).ext0 hfb (by repeat (first | exact Ext.refl _ | assumption | refine Ext.trans (by assumption) ?_)))) (by omega)) ?_
          rintro _ w54 ⟨v54, rfl, R54, X54⟩
          have z54 := X54.size
          obtain ⟨aa, ca, rfl, hca⟩ := Sl.val R54
          have hlA : (Sl tAct).rep (fun k => k < w54.heap.size) w54 _ (addL d (flagsAt fs 0 l)).1 := (Sl tAct).mono R54 (fun k _ h => h)
          refine .p rfl rfl (.mv rfl) ?_
          refine .p rfl rfl (.extract rfl rfl) ?_
          refine .p rfl rfl (.cast (.extract rfl rfl) (show _ = Value.bool (addL d (flagsAt fs 0 l)).2 from rfl)) ?_
          refine .p rfl rfl (.as rfl) ?_
          refine .p rfl rfl (.as rfl) ?_
          refine .nil (.code (.seq (.seq (.keep [(15, _), (14, _), (13, _), (12, _), (11, _), (5, _), (1, _), (3, _), (4, _)] ⟨rfl, rfl, rfl, rfl, rfl, rfl, rfl, rfl, rfl, trivial⟩ (.region ?_)))))
          refine .p rfl rfl (.mv rfl) ?_
          refine .p rfl rfl (.ne rfl rfl) ?_
          refine .p rfl rfl (.mv rfl) ?_
          refine .caseD 59 rfl (fun c59 => ?_) (fun c59 => ?_)
          · refine .skip rfl rfl ?_
            refine .skip rfl rfl ?_
            refine .p rfl rfl (.pickT rfl rfl) ?_
            refine .p rfl rfl (.mv rfl) ?_
            refine .skip rfl rfl ?_
            refine .skip rfl rfl ?_
            refine .p rfl rfl (.pickT rfl rfl) ?_
            refine .p rfl rfl (.mv rfl) ?_
            refine .skip rfl rfl ?_
            refine .skip rfl rfl ?_
            refine .skip rfl rfl ?_
            refine .skip rfl rfl ?_
            refine .p rfl rfl (.pickT rfl rfl) ?_
            refine .nil (.code (.keep [(72, _), (14, _), (12, _), (11, _), (5, _), (1, _), (3, _), (4, _)] ⟨rfl, rfl, rfl, rfl, rfl, rfl, rfl, rfl, trivial⟩ (.condT rfl (.seq (.keep [(11, _)] ⟨rfl, trivial⟩ (.region ?_))))))
            refine .p rfl rfl (.mv rfl) ?_
            refine .p rfl rfl (.as rfl) ?_
            refine .nil (.code ?_)
            refine .ret _ rfl ?_
            exact ⟨rfl, (by repeat (first | exact Ext.refl _ | assumption | refine Ext.trans (by assumption) ?_))⟩
          · refine .p rfl rfl (.mv rfl) ?_
            refine .p rfl rfl (.not rfl) ?_
            refine .p rfl rfl (.pickF rfl rfl) ?_
            refine .p rfl rfl (.mv rfl) ?_
            refine .case 63 rfl (fun c63 => ?_) (fun c63 => ?_)
            · refine .skip rfl rfl ?_
              refine .skip rfl rfl ?_
              refine .p rfl rfl (.pickT rfl rfl) ?_
              refine .p rfl rfl (.mv rfl) ?_
              refine .skip rfl rfl ?_
              refine .skip rfl rfl ?_
              refine .skip rfl rfl ?_
              refine .skip rfl rfl ?_
              refine .p rfl rfl (.pickT rfl rfl) ?_
              refine .nil (.code (.keep [(72, _), (14, _), (12, _), (11, _), (5, _), (1, _), (3, _), (4, _)] ⟨rfl, rfl, rfl, rfl, rfl, rfl, rfl, rfl, trivial⟩ (.condT rfl (.seq (.keep [(11, _)] ⟨rfl, trivial⟩ (.region ?_))))))
              refine .p rfl rfl (.mv rfl) ?_
              refine .p rfl rfl (.as rfl) ?_
              refine .nil (.code ?_)
              refine .ret _ rfl ?_
              exact ⟨rfl, (by repeat (first | exact Ext.refl _ | assumption | refine Ext.trans (by assumption) ?_))⟩
            · refine .p rfl rfl (.mv rfl) ?_
              refine .p rfl rfl (.lt rfl rfl) ?_
              refine .p rfl rfl (.pickF rfl rfl) ?_
              refine .p rfl rfl (.mv rfl) ?_
              refine .caseD 67 rfl (fun c67 => ?_) (fun c67 => ?_)
              · refine .skip rfl rfl ?_
                refine .skip rfl rfl ?_
                refine .skip rfl rfl ?_
                refine .skip rfl rfl ?_
                refine .p rfl rfl (.pickT rfl rfl) ?_
                refine .nil (.code (.keep [(72, _), (14, _), (12, _), (11, _), (5, _), (1, _), (3, _), (4, _)] ⟨rfl, rfl, rfl, rfl, rfl, rfl, rfl, rfl, trivial⟩ (.condT rfl (.seq (.keep [(11, _)] ⟨rfl, trivial⟩ (.region ?_))))))
                refine .p rfl rfl (.mv rfl) ?_
                refine .p rfl rfl (.as rfl) ?_
                refine .nil (.code ?_)
                refine .ret _ rfl ?_
                exact ⟨rfl, (by repeat (first | exact Ext.refl _ | assumption | refine Ext.trans (by assumption) ?_))⟩
              · refine .p rfl rfl (.mv rfl) ?_
                refine .p rfl rfl (.mv rfl) ?_
                refine .p rfl rfl (.len rfl rfl) ?_
                refine .p rfl rfl (.gt rfl rfl) ?_
                refine .p rfl rfl (.pickF rfl rfl) ?_
                refine .nil (.code (.keep [(72, _), (14, _), (12, _), (11, _), (5, _), (1, _), (3, _), (4, _)] ⟨rfl, rfl, rfl, rfl, rfl, rfl, rfl, rfl, trivial⟩ ?_))
                refine .condD rfl (fun c72 => ?_) (fun c72 => ?_)
                · refine .seq (.keep [(11, _)] ⟨rfl, trivial⟩ (.region ?_))
                  refine .p rfl rfl (.mv rfl) ?_
                  refine .p rfl rfl (.as rfl) ?_
                  refine .nil (.code ?_)
                  refine .ret _ rfl ?_
                  exact ⟨rfl, (by repeat (first | exact Ext.refl _ | assumption | refine Ext.trans (by assumption) ?_))⟩
                · have hst : (stateF d).2 = 0 := Decidable.not_not.1 c59
                  have hA : (addL d (flagsAt fs 0 l)).2 = true := by simpa using c63
                  have hA' : addL d (flagsAt fs 0 l) = ((addL d (flagsAt fs 0 l)).1, true) := Prod.ext rfl hA
                  have hw0 : d.waits = [] := List.length_eq_zero_iff.1 (by omega)
                  obtain ⟨x', y, m, p1, p2, p3, p4, p5, p6, p7⟩ := lost' hst hA hw0 (by omega) (n := n.toNat) (by omega) ks
                  obtain ⟨a78, c78, hv78, hc78, R78⟩ := Sl.cutE hlA 0 n.toNat (by omega) (by omega)
                  simp only [Nat.sub_zero] at hv78 R78
                  refine .skip (.code (.seq (.keep [(14, _), (12, _), (11, _), (5, _), (1, _), (3, _), (4, _)] ⟨rfl, rfl, rfl, rfl, rfl, rfl, rfl, trivial⟩ ?_)))
                  have B5w := B5.ext (S := fun _ => False) (w' := w54) (by repeat (first | exact Ext.refl _ | assumption | refine Ext.trans (by assumption) ?_)) (fun x => x)
                  refine .meet (S := Nat × Disk × Int × (Option Addr × Nat × Option Addr × Nat) × World) (fun s => [(1, .slice al l.length capl), (3, i64 n), (4, .slice ak ks.length capk), (11, .bool true), (12, .slice a47 (stateF d).1.recs.length c47), (14, .slice aa (addL d (flagsAt fs 0 l)).1.length ca), (16, .pointer (some ⟨s.1, 0, none⟩)), (17, i64 s.2.2.1)]) (fun s => s.2.2.2.2) (fun s => Blk s.2.2.2.2 s.1 36 [i64 s.2.1.count, .slice s.2.2.2.1.1 s.2.1.data.length s.2.2.2.1.2.1, .slice s.2.2.2.1.2.2.1 s.2.1.waits.length s.2.2.2.1.2.2.2] ∧ tDisk.rep All s.2.2.2.2 (.agg #[i64 s.2.1.count, .slice s.2.2.2.1.1 s.2.1.data.length s.2.2.2.1.2.1, .slice s.2.2.2.1.2.2.1 s.2.1.waits.length s.2.2.2.1.2.2.2]) s.2.1 ∧ Ext (fun _ => False) w54 s.2.2.2.2 ∧ doF d (((addL d (flagsAt fs 0 l)).1.take n.toNat).drop 0) = (s.2.1, s.2.2.1) ∧ s.1 < s.2.2.2.2.heap.size) ?_ ?_
                  · rintro ⟨p, x, e, ⟨f1, g1, h1, i1⟩, wm⟩ ⟨Bm, Rm, Xm, hxe, hpl⟩
                    simp only at Bm Rm Xm hxe hpl
                    have zwm : w54.heap.size ≤ wm.heap.size := Xm.size
                    change A _ [(1, .slice al l.length capl), (3, i64 n), (4, .slice ak ks.length capk), (11, .bool true), (12, .slice a47 (stateF d).1.recs.length c47), (14, .slice aa (addL d (flagsAt fs 0 l)).1.length ca), (16, .pointer (some ⟨p, 0, none⟩)), (17, i64 e)] _ wm
                    refine .code (.seq ?_)
                    rw [List.drop_zero] at hxe
                    obtain ⟨e1, e2⟩ := Prod.mk.inj (hxe.symm.trans p1)
                    subst e1
                    subst e2
                    refine .region ?_
                    refine .p rfl rfl (.loadA (n := 3) rfl rfl rfl rfl rfl (Bm.ext (S := fun _ => False) (by repeat (first | exact Ext.refl _ | assumption | refine Ext.trans (by assumption) ?_)) (fun x => x)).cells) ?_
                    refine .p rfl rfl (.mv rfl) ?_
                    refine .call (first := []) (captured := []) rfl rfl rfl rfl (Crash_fn (d := x) (ks := ks) (allOf (tDisk.ext0 Rm (by repeat (first | exact Ext.refl _ | assumption | refine Ext.trans (by assumption) ?_)))) (allOf ((Sl tBool).ext0 hkb (by repeat (first | exact Ext.refl _ | assumption | refine Ext.trans (by assumption) ?_))))) ?_
                    rintro _ w85 ⟨v85, rfl, D85, X85⟩
                    have z85 := X85.size
                    rw [p2] at D85 ⊢
                    obtain ⟨x1, y1, x2, y2, rfl⟩ := D85.val
                    refine .p rfl rfl (.mv rfl) ?_
                    refine .p rfl rfl (.extract rfl rfl) ?_
                    refine .p rfl rfl (.extract rfl rfl) ?_
                    refine .v rfl rfl (.alloc rfl rfl) ?_
                    rintro _ wn18 ⟨rfl, N18⟩
                    refine .s rfl (.storeAll (n := 3) rfl rfl rfl rfl rfl N18.blk rfl) ?_
                    intro w18 P18
                    have X18 := N18.ext.then P18.ext (by rintro k rfl _; exact Nat.le_refl _)
                    have z18 := X18.size
                    have B18 := P18.blk
                    have l18 := B18.lt
                    clear N18 P18
                    refine .p rfl rfl (.as rfl) ?_
                    refine .nil (.code (.seq (.seq (.keep [(19, _), (18, _), (1, _), (3, _), (11, _), (12, _), (14, _), (17, _)] ⟨rfl, rfl, rfl, rfl, rfl, rfl, rfl, rfl, trivial⟩ (.region ?_)))))
                    refine .p rfl rfl (.mv rfl) ?_
                    refine .p rfl rfl (.no (.ne rfl rfl) (fun h => h rfl)) ?_
                    refine .p rfl rfl (.mv rfl) ?_
                    refine .p rfl rfl (.mv rfl) ?_
                    refine .p rfl rfl (.no (.ne rfl rfl) (fun h => h rfl)) ?_
                    refine .p rfl rfl (.pickF rfl rfl) ?_
                    refine .nil (.code (.keep [(93, _), (18, _), (1, _), (3, _), (11, _), (12, _), (14, _)] ⟨rfl, rfl, rfl, rfl, rfl, rfl, rfl, trivial⟩ (.condF rfl (.skip (.code (.seq (.keep [(18, _), (1, _), (3, _), (11, _), (12, _), (14, _)] ⟨rfl, rfl, rfl, rfl, rfl, rfl, trivial⟩ (.region ?_))))))))
                    refine .p rfl rfl (.loadA (n := 3) rfl rfl rfl rfl rfl (B18.ext (S := fun _ => False) (by repeat (first | exact Ext.refl _ | assumption | refine Ext.trans (by assumption) ?_)) (fun x => x)).cells) ?_
                    refine .call (first := []) (captured := []) rfl rfl rfl rfl (Records_fn (d := y) (allOf (tDisk.ext0 D85.rep (by repeat (first | exact Ext.refl _ | assumption | refine Ext.trans (by assumption) ?_))))) ?_
                    rintro _ w96 ⟨v96, rfl, R96, X96⟩
                    have z96 := X96.size
                    have hnl : (stateF y).1.recs.length = (stateF d).1.recs.length + m := by rw [p6, List.length_append, List.length_take, Nat.min_eq_left p5]
                    obtain ⟨a96, c96, rfl, _⟩ := Sl.val R96
                    refine .p rfl rfl (.mv rfl) ?_
                    refine .p rfl rfl (.extract rfl rfl) ?_
                    refine .p rfl rfl (.extract rfl rfl) ?_
                    refine .p rfl rfl (.as rfl) ?_
                    refine .p rfl rfl (.as rfl) ?_
                    refine .nil (.code (.seq (.seq (.keep [(21, _), (20, _), (1, _), (3, _), (11, _), (12, _), (14, _)] ⟨rfl, rfl, rfl, rfl, rfl, rfl, rfl, trivial⟩ (.region ?_)))))
                    refine .p rfl rfl (.mv rfl) ?_
                    refine .p rfl rfl (.no (.ne rfl rfl) (fun h => h p4)) ?_
                    refine .p rfl rfl (.mv rfl) ?_
                    refine .p rfl rfl (.mv rfl) ?_
                    refine .p rfl rfl (.len rfl rfl) ?_
                    refine .p rfl rfl (.mv rfl) ?_
                    refine .p rfl rfl (.len rfl rfl) ?_
                    refine .p rfl rfl (.mv rfl) ?_
                    refine .p rfl rfl (.mv rfl) ?_
                    refine .p rfl rfl (.cast (.cutHi (s := 3) rfl rfl rfl rfl (by omega)) hv78) ?_
                    refine .call (first := []) (captured := []) rfl rfl rfl rfl (sure_fn (l := ((addL d (flagsAt fs 0 l)).1.take n.toNat).drop 0) (allOf ((Sl tAct).ext0 R78 (by repeat (first | exact Ext.refl _ | assumption | refine Ext.trans (by assumption) ?_)))) (fun i hi hf => by have := addL_len hst hA' hw0 (by rw [flags_length]; omega) _ (List.mem_of_mem_take (List.mem_of_mem_drop (List.getElem_mem hi))) hf; omega)) ?_
                    rintro _ w109 ⟨rfl, X109⟩
                    have z109 := X109.size
                    rw [List.drop_zero]
                    refine .p rfl rfl (.add rfl rfl (by have := (state_at d).2; have := (state_at d).1; omega)) ?_
                    refine .p rfl rfl (.no (.lt rfl rfl) (by rw [hnl]; omega)) ?_
                    refine .p rfl rfl (.pickF rfl rfl) ?_
                    refine .p rfl rfl (.mv rfl) ?_
                    refine .p rfl rfl (.mv rfl) ?_
                    refine .p rfl rfl (.len rfl rfl) ?_
                    refine .p rfl rfl (.mv rfl) ?_
                    refine .p rfl rfl (.len rfl rfl) ?_
                    refine .p rfl rfl (.mv rfl) ?_
                    refine .p rfl rfl (.len rfl rfl) ?_
                    refine .p rfl rfl (.add rfl rfl (by have := (state_at d).2; have := (state_at d).1; omega)) ?_
                    refine .p rfl rfl (.no (.gt rfl rfl) (by rw [hnl]; omega)) ?_
                    refine .p rfl rfl (.pickF rfl rfl) ?_
                    refine .nil (.code (.keep [(122, _), (20, _), (1, _), (11, _), (12, _)] ⟨rfl, rfl, rfl, rfl, rfl, trivial⟩ (.condF rfl (.skip (.code (.seq (.keep [(20, _), (1, _), (11, _), (12, _)] ⟨rfl, rfl, rfl, rfl, trivial⟩ (.region ?_))))))))
                    refine .p rfl rfl (.mv rfl) ?_
                    refine .v rfl rfl (.append (t := tStr) (Q := fun _ => False) (b := w109.heap.size) (eb := 16) rfl Own.nil rfl (Sl.holds (allOf (tStrs.ext0 R47 (by repeat (first | exact Ext.refl _ | assumption | refine Ext.trans (by assumption) ?_)))) (fun _ _ h => h)) rfl rfl rfl rfl rfl rfl rfl (by have := (state_at d).2; have := (state_at d).1; simp; omega) (by have := (state_at d).2; have := (state_at d).1; simp [Lim]; omega) (fun _ h _ => h.elim)) ?_
                    rintro v124 w124 ⟨b124, O124, X124, hb124⟩
                    have O124 := O124.mono (Q' := fun _ => False) (fun _ h _ => h.1)
                    have Y124 : Ext (fun _ => False) w109 w124 := X124.mono (fun k hk he => by have he : k = w109.heap.size := he; omega)
                    clear X124
                    have hb124 : b124 = w109.heap.size := hb124.elim id id
                    refine .p rfl rfl (.mv rfl) ?_
                    refine .v rfl rfl (.append (t := tStr) (Q := fun _ => False) (eb := 16) rfl O124 rfl (Sl.holds (allOf (tStrs.ext0 hlb (by repeat (first | exact Ext.refl _ | assumption | refine Ext.trans (by assumption) ?_)))) (fun _ _ h => h)) rfl rfl rfl rfl rfl rfl rfl (by have := (state_at d).2; have := (state_at d).1; simp; omega) (by have := (state_at d).2; have := (state_at d).1; simp [Lim]; omega) (fun _ h _ => h.elim)) ?_
                    rintro v126 w126 ⟨b126, O126, X126, hb126⟩
                    have Y126 : Ext (fun _ => False) w109 w126 := Y124.then X126 (by rintro k rfl _; omega)
                    clear X126 Y124
                    have R126 : tStrs.rep All w126 v126 ((stateF d).1.recs ++ l) := O126.rep trivial (fun _ _ _ => trivial)
                    have ht126 : ((stateF d).1.recs ++ l).length = (stateF d).1.recs.length + l.length := by simp
                    obtain ⟨a126, c126, rfl, hc126⟩ := Sl.val R126
                    have R133 := Sl.cut R126 0 (stateF y).1.recs.length (by omega) (by omega)
                    have e133 : (((stateF d).1.recs ++ l).take (stateF y).1.recs.length).drop 0 = (stateF y).1.recs := by
                      rw [List.drop_zero, hnl, p6, List.take_append, List.take_of_length_le (by omega), Nat.add_sub_cancel_left]
                    rw [e133] at R133
                    refine .p rfl rfl (.as rfl) ?_
                    refine .nil (.code (.seq (.keep [(22, _), (20, _), (11, _)] ⟨rfl, rfl, rfl, trivial⟩ (.region ?_))))
                    refine .p rfl rfl (.mv rfl) ?_
                    refine .p rfl rfl (.mv rfl) ?_
                    refine .p rfl rfl (.mv rfl) ?_
                    refine .p rfl rfl (.mv rfl) ?_
                    refine .p rfl rfl (.mv rfl) ?_
                    refine .p rfl rfl (.len rfl rfl) ?_
                    refine .p rfl rfl (.cutHi (s := 1) rfl rfl rfl rfl (by omega)) ?_
                    refine .call (first := []) (captured := []) rfl rfl rfl rfl (textsT_fn (allOf (tStrs.ext0 R96 (by repeat (first | exact Ext.refl _ | assumption | refine Ext.trans (by assumption) ?_)))) (allOf R133)) ?_
                    rintro _ w134 ⟨rfl, X134⟩
                    have z134 := X134.size
                    refine .p rfl rfl (.pickT rfl rfl) ?_
                    refine .p rfl rfl (.as rfl) ?_
                    refine .nil (.code ?_)
                    refine .ret _ rfl ?_
                    exact ⟨rfl, (by repeat (first | exact Ext.refl _ | assumption | refine Ext.trans (by assumption) ?_))⟩
                  · intro meet
                    refine .tree (fun k => w54.heap.size ≤ k) [4, 8, 9] (.op 0 (.op 1 (.op 2 (.op 3 (.alt 4 (.op 4 (.op 5 (.op 6 (.op 7 (.alt 8 (.op 8 (.alt 9 (.op 9 (.op 10 (.nil))) (.stop))) (.stop)))))) (.alt 8 (.op 8 (.alt 4 (.op 4 (.op 5 (.op 6 (.op 7 (.alt 9 (.op 9 (.op 10 (.nil))) (.stop)))))) (.stop))) (.stop))))))) (by kernel_rfl) (by kernel_rfl) (by kernel_rfl) ?_
                    refine .p rfl rfl rfl rfl (fun wx hx => .loadA (n := 3) rfl rfl rfl rfl rfl (B5w.ext hx (by show ¬ (w54.heap.size ≤ _); omega)).cells) ?_
                    refine .p rfl rfl rfl rfl (fun wx hx => .mv rfl) ?_
                    refine .p rfl rfl rfl rfl (fun wx hx => .mv rfl) ?_
                    refine .p rfl rfl rfl rfl (fun wx hx => .cast (.cutHi (s := 3) rfl rfl rfl rfl (by omega)) hv78) ?_
                    refine .alt ?_ ?_
                    · refine .call (first := []) (captured := []) rfl rfl rfl rfl rfl rfl (DoE_fn (d := d) (l := ((addL d (flagsAt fs 0 l)).1.take n.toNat).drop 0) (allOf (tDisk.ext (tDisk.ext0 R3 (by repeat (first | exact Ext.refl _ | assumption | refine Ext.trans (by assumption) ?_))) (Ext.refl _) (by intro k hk _ he; have he : w54.heap.size ≤ k := he; omega))) (allOf ((Sl tAct).ext ((Sl tAct).ext0 R78 (by repeat (first | exact Ext.refl _ | assumption | refine Ext.trans (by assumption) ?_))) (Ext.refl _) (by intro k hk _ he; have he : w54.heap.size ≤ k := he; omega)))) (by rintro _ _ ⟨_, _, _, _, _, _, hx⟩; exact (Ext.refl _).trans (hx.mono (fun _ _ h => h.elim))) ?_
                      rintro _ w79 ⟨v79, x79, e79, hx79, rfl, R79, X79⟩
                      have z79 := X79.size
                      obtain ⟨f79, g79, p79, q79, rfl⟩ := disk_shape R79
                      have hX79 : Ext (fun k => w54.heap.size ≤ k) _ _ := (Ext.refl _).trans (X79.mono (fun _ _ h => h.elim))
                      refine .p rfl rfl rfl rfl (fun wx hx => .mv rfl) ?_
                      refine .p rfl rfl rfl rfl (fun wx hx => .extract rfl rfl) ?_
                      refine .p rfl rfl rfl rfl (fun wx hx => .extract rfl rfl) ?_
                      refine .alt ?_ ?_
                      · refine .v rfl rfl rfl rfl (.alloc rfl rfl) (by rintro _ _ ⟨_, hN⟩; exact hX79.trans hN.ext0) ?_
                        rintro _ wa16 ⟨rfl, N16⟩
                        have z16 := N16.size
                        have hX16 : Ext (fun k => w54.heap.size ≤ k) _ _ := hX79.trans (N16.ext0)
                        refine .alt ?_ ?_
                        · refine .s rfl rfl rfl (.storeAll (n := 3) (E := 36) (cs := [i64 0, .slice none 0 0, .slice none 0 0]) rfl rfl rfl rfl rfl (by first | exact N16.blk | exact N16.blk.ext X79 (fun x => x)) rfl) (by intro wz hP; exact hX16.trans (hP.ext.mono (by rintro k _ rfl; show w54.heap.size ≤ _; omega))) ?_
                          intro wb16 P16
                          have hXs9 : Ext (fun k => w54.heap.size ≤ k) _ _ := hX16.trans (P16.ext.mono (by rintro k _ rfl; show w54.heap.size ≤ _; omega))
                          refine .p rfl rfl rfl rfl (fun wx hx => .as rfl) ?_
                          refine .nil ?_
                          have zb := P16.size
                          exact (meet (w79.heap.size, x79, e79, (f79, g79, p79, q79), wb16) ⟨P16.blk, allOf (tDisk.ext (tDisk.ext0 R79 N16.ext) P16.ext (fun k hk _ he => by have he : k = w79.heap.size := he; omega)), (Ext.refl w54).then hXs9 (fun k hk _ => hk), hx79, by show w79.heap.size < wb16.heap.size; omega⟩).of ⟨rfl, rfl, rfl, rfl, rfl, rfl, rfl, rfl, trivial⟩
                        exact .stop
                      exact .stop
                    refine .alt ?_ ?_
                    · refine .v rfl rfl rfl rfl (.alloc rfl rfl) (by rintro _ _ ⟨_, hN⟩; exact (Ext.refl _).trans hN.ext0) ?_
                      rintro _ wa16 ⟨rfl, N16⟩
                      have z16 := N16.size
                      have hX16 : Ext (fun k => w54.heap.size ≤ k) _ _ := (Ext.refl _).trans (N16.ext0)
                      refine .alt ?_ ?_
                      · refine .call (first := []) (captured := []) rfl rfl rfl rfl rfl rfl (DoE_fn (d := d) (l := ((addL d (flagsAt fs 0 l)).1.take n.toNat).drop 0) (allOf (tDisk.ext (tDisk.ext0 R3 (by repeat (first | exact Ext.refl _ | assumption | refine Ext.trans (by assumption) ?_))) hX16 (by intro k hk _ he; have he : w54.heap.size ≤ k := he; omega))) (allOf ((Sl tAct).ext ((Sl tAct).ext0 R78 (by repeat (first | exact Ext.refl _ | assumption | refine Ext.trans (by assumption) ?_))) hX16 (by intro k hk _ he; have he : w54.heap.size ≤ k := he; omega)))) (by rintro _ _ ⟨_, _, _, _, _, _, hx⟩; exact hX16.trans (hx.mono (fun _ _ h => h.elim))) ?_
                        rintro _ w79 ⟨v79, x79, e79, hx79, rfl, R79, X79⟩
                        have z79 := X79.size
                        obtain ⟨f79, g79, p79, q79, rfl⟩ := disk_shape R79
                        have hX79 : Ext (fun k => w54.heap.size ≤ k) _ _ := hX16.trans (X79.mono (fun _ _ h => h.elim))
                        refine .p rfl rfl rfl rfl (fun wx hx => .mv rfl) ?_
                        refine .p rfl rfl rfl rfl (fun wx hx => .extract rfl rfl) ?_
                        refine .p rfl rfl rfl rfl (fun wx hx => .extract rfl rfl) ?_
                        refine .alt ?_ ?_
                        · refine .s rfl rfl rfl (.storeAll (n := 3) (E := 36) (cs := [i64 0, .slice none 0 0, .slice none 0 0]) rfl rfl rfl rfl rfl (by first | exact N16.blk | exact N16.blk.ext X79 (fun x => x)) rfl) (by intro wz hP; exact hX79.trans (hP.ext.mono (by rintro k _ rfl; show w54.heap.size ≤ _; omega))) ?_
                          intro wb16 P16
                          have hXs9 : Ext (fun k => w54.heap.size ≤ k) _ _ := hX79.trans (P16.ext.mono (by rintro k _ rfl; show w54.heap.size ≤ _; omega))
                          refine .p rfl rfl rfl rfl (fun wx hx => .as rfl) ?_
                          refine .nil ?_
                          have zb := P16.size
                          exact (meet (w54.heap.size, x79, e79, (f79, g79, p79, q79), wb16) ⟨P16.blk, allOf (tDisk.ext (R79) P16.ext (fun k hk _ he => by have he : k = w54.heap.size := he; omega)), (Ext.refl w54).then hXs9 (fun k hk _ => hk), hx79, by show w54.heap.size < wb16.heap.size; omega⟩).of ⟨rfl, rfl, rfl, rfl, rfl, rfl, rfl, rfl, trivial⟩
                        exact .stop
                      exact .stop
                    exact .stop
end Go.Proofs.Ytapdacjpmmjlhaa
