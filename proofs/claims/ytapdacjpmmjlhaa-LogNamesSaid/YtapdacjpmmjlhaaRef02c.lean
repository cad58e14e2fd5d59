
/-
  The document's own disk: writes made sure, acts, comparing.
-/
import Derived.Test.YtapdacjpmmjlhaaRef02b
set_option linter.unusedVariables false
set_option linter.unusedSimpArgs false
set_option maxRecDepth 20000
namespace Go.Proofs.Ytapdacjpmmjlhaa
open Go disk
namespace disk
theorem put_ext {p q : disk.Put} (h1 : p.sector = q.sector) (h2 : p.data = q.data) : p = q := by cases p; cases q; simp_all
theorem do_asked {d : Disk} {n : Int} {b : Bs} (h : ¬ askedF d n = 0) : doF d [⟨false, n, b⟩] = (nodisk, askedF d n) := by
  unfold askedF at h ⊢
  unfold doF
  split
  · rfl
  · rename_i hc
    rw [if_neg hc] at h
    split
    · rename_i hr
      rw [doN, if_neg (by simp), if_pos hr]
    · rename_i hr; rw [if_neg hr] at h; exact absurd rfl h
end disk
theorem refSame_fn {w : World} {v u : Value} {a b : Disk} (ha : tDisk.rep All w v a) (hb : tDisk.rep All w u b) : Fn Try.prog 29 [v, u] w (fun r w2 => r = .bool (decide (a = b)) ∧ Ext (fun _ => False) w w2) := by
  obtain ⟨va, va', rfl, had, haw, _⟩ := tDisk.val ha
  obtain ⟨vb, vb', rfl, hbd, hbw, _⟩ := tDisk.val hb
  obtain ⟨ac, ad, aw⟩ := a
  obtain ⟨bc, bd, bw⟩ := b
  simp only at had haw hbd hbw
  obtain ⟨x2, y2, rfl, _⟩ := Sl.val haw
  obtain ⟨x4, y4, rfl, _⟩ := Sl.val hbw
  have hl1 := Sl.lim haw
  have hl2 := Sl.lim hbw
  simp only [Lim] at hl1 hl2
  refine Fn.enter (fun w => Try.call29 _ w) Try.func29 rfl ?_
  refine .seq (.region ?_)
  refine .v rfl rfl (.box rfl) ?_
  rintro _ w2 ⟨rfl, N2⟩
  refine .v rfl rfl (.box rfl) ?_
  rintro _ w3 ⟨rfl, N3⟩
  have B2 := N2.blk.ext N3.ext (fun x => x)
  have B3 := N3.blk
  have X3 := N2.ext.trans N3.ext
  refine .p rfl rfl (.as rfl) ?_
  refine .nil (.code (.seq (.seq (.keep [(3, _), (2, _)] ⟨rfl, rfl, trivial⟩ (.region ?_)))))
  refine .p rfl rfl (.fieldAddr rfl rfl rfl rfl) ?_
  refine .p rfl rfl (.load rfl rfl rfl (B2.cell 0)) ?_
  refine .p rfl rfl (.fieldAddr rfl rfl rfl rfl) ?_
  refine .p rfl rfl (.load rfl rfl rfl (B3.cell 0)) ?_
  refine .p rfl rfl (.ne rfl rfl) ?_
  refine .p rfl rfl (.mv rfl) ?_
  refine .caseD 11 rfl (fun c11 => ?_) (fun c11 => ?_)
  · refine .skip rfl rfl ?_
    refine .skip rfl rfl ?_
    refine .skip rfl rfl ?_
    refine .skip rfl rfl ?_
    refine .skip rfl rfl ?_
    refine .skip rfl rfl ?_
    refine .skip rfl rfl ?_
    refine .p rfl rfl (.pickT rfl rfl) ?_
    refine .p rfl rfl (.mv rfl) ?_
    refine .skip rfl rfl ?_
    refine .skip rfl rfl ?_
    refine .skip rfl rfl ?_
    refine .skip rfl rfl ?_
    refine .skip rfl rfl ?_
    refine .skip rfl rfl ?_
    refine .skip rfl rfl ?_
    refine .p rfl rfl (.pickT rfl rfl) ?_
    refine .nil (.code (.keep [(28, _), (3, _), (2, _)] ⟨rfl, rfl, rfl, trivial⟩ (.condT rfl (.seq (.keep [] trivial (.region ?_))))))
    refine .p rfl rfl (.as rfl) ?_
    refine .nil (.code ?_)
    refine .ret _ rfl ?_
    exact ⟨by rw [decide_eq_false (fun h => c11 (by cases h; rfl))]; rfl, X3⟩
  · refine .p rfl rfl (.fieldAddr rfl rfl rfl rfl) ?_
    refine .p rfl rfl (.load rfl rfl rfl (B2.cell 1)) ?_
    refine .p rfl rfl (.bytesStr rfl (tBytes.ext0 had X3) rfl rfl rfl) ?_
    refine .p rfl rfl (.fieldAddr rfl rfl rfl rfl) ?_
    refine .p rfl rfl (.load rfl rfl rfl (B3.cell 1)) ?_
    refine .p rfl rfl (.bytesStr rfl (tBytes.ext0 hbd X3) rfl rfl rfl) ?_
    refine .p rfl rfl (.neS rfl rfl) ?_
    refine .p rfl rfl (.pickF rfl rfl) ?_
    refine .p rfl rfl (.mv rfl) ?_
    refine .caseD 20 rfl (fun c20 => ?_) (fun c20 => ?_)
    · refine .skip rfl rfl ?_
      refine .skip rfl rfl ?_
      refine .skip rfl rfl ?_
      refine .skip rfl rfl ?_
      refine .skip rfl rfl ?_
      refine .skip rfl rfl ?_
      refine .skip rfl rfl ?_
      refine .p rfl rfl (.pickT rfl rfl) ?_
      refine .nil (.code (.keep [(28, _), (3, _), (2, _)] ⟨rfl, rfl, rfl, trivial⟩ (.condT rfl (.seq (.keep [] trivial (.region ?_))))))
      refine .p rfl rfl (.as rfl) ?_
      refine .nil (.code ?_)
      refine .ret _ rfl ?_
      exact ⟨by rw [decide_eq_false (fun h => c20 (by cases h; rfl))]; rfl, X3⟩
    · refine .p rfl rfl (.fieldAddr rfl rfl rfl rfl) ?_
      refine .p rfl rfl (.load rfl rfl rfl (B2.cell 2)) ?_
      refine .p rfl rfl (.len rfl rfl) ?_
      refine .p rfl rfl (.fieldAddr rfl rfl rfl rfl) ?_
      refine .p rfl rfl (.load rfl rfl rfl (B3.cell 2)) ?_
      refine .p rfl rfl (.len rfl rfl) ?_
      refine .p rfl rfl (.ne rfl rfl) ?_
      refine .p rfl rfl (.pickF rfl rfl) ?_
      refine .nil (.code (.keep [(28, _), (3, _), (2, _)] ⟨rfl, rfl, rfl, trivial⟩ ?_))
      refine .condD rfl (fun c28 => ?_) (fun c28 => ?_)
      · refine .seq (.keep [] trivial (.region ?_))
        refine .p rfl rfl (.as rfl) ?_
        refine .nil (.code ?_)
        refine .ret _ rfl ?_
        exact ⟨by rw [decide_eq_false (fun h => c28 (by cases h; rfl))]; rfl, X3⟩
      · refine .skip (.code (.seq (.seq (.keep [(3, _), (2, _)] ⟨rfl, rfl, trivial⟩ (.region ?_)))))
        refine .p rfl rfl (.as rfl) ?_
        refine .nil (.code (.block ?_))
        have c11 : ac = bc := Decidable.not_not.1 c11
        have c20 : ad = bd := Decidable.not_not.1 c20
        subst c11
        subst c20
        have hlen : aw.length = bw.length := by omega
        refine .loop (S := Nat) (fun s => [(2, .pointer (some ⟨w.heap.size, 0, none⟩)), (3, .pointer (some ⟨w2.heap.size, 0, none⟩)), (5, i64 s)]) (fun s => w3) (fun s => s ≤ aw.length ∧ aw.take s = bw.take s) (fun s => aw.length - s) 0 ⟨rfl, rfl, rfl, trivial⟩ rfl ⟨Nat.zero_le _, rfl⟩ ?_
        rintro i J ⟨hi', htk⟩ again
        refine .seq (.seq (.region ?_))
        refine .p rfl rfl (.mv rfl) ?_
        refine .p rfl rfl (.fieldAddr rfl rfl rfl rfl) ?_
        refine .p rfl rfl (.load rfl rfl rfl (B2.cell 2)) ?_
        refine .p rfl rfl (.len rfl rfl) ?_
        refine .p rfl rfl (.lt rfl rfl) ?_
        refine .nil (.code (.keep [(33, _), (2, _), (3, _), (5, _)] ⟨rfl, rfl, rfl, rfl, trivial⟩ ?_))
        refine .condD rfl (fun c33 => ?_) (fun c33 => ?_)
        · have hil : i < aw.length := by omega
          have him : i < bw.length := by omega
          obtain ⟨b1, o1, q1, ue, e, _, hcs, hre⟩ := Sl.at haw (List.getElem?_eq_getElem hil)
          cases e
          obtain ⟨ud, rfl, hudl, hsl⟩ := tPut.val hre
          obtain ⟨adl, capd, rfl, _⟩ := Sl.val hudl
          have hcs' := hcs.ext X3 (fun x => x)
          obtain ⟨b2, o2, q2, ue2, e2, _, hcm, hrm⟩ := Sl.at hbw (List.getElem?_eq_getElem him)
          cases e2
          obtain ⟨um, rfl, hudm, hsm⟩ := tPut.val hrm
          obtain ⟨adm, capdm, rfl, _⟩ := Sl.val hudm
          have hcm' := hcm.ext X3 (fun x => x)
          refine .skip (.code (.seq (.block (.seq (.keep [(2, _), (3, _), (5, _)] ⟨rfl, rfl, rfl, trivial⟩ (.draws (by kernel_rfl) (by kernel_rfl) ?_))))))
          refine .p rfl rfl (.fieldAddr rfl rfl rfl rfl) ?_
          refine .p rfl rfl (.load rfl rfl rfl (B2.cell 2)) ?_
          refine .p rfl rfl (.mv rfl) ?_
          refine .p rfl rfl (.indexAddr (s := 2) rfl rfl rfl rfl (by omega)) ?_
          refine .p rfl rfl (.fieldAddr rfl rfl rfl rfl) ?_
          refine .p rfl rfl (.load rfl rfl rfl (hcs' 0 _ rfl)) ?_
          refine .p rfl rfl (.fieldAddr rfl rfl rfl rfl) ?_
          refine .p rfl rfl (.load rfl rfl rfl (B3.cell 2)) ?_
          refine .p rfl rfl (.mv rfl) ?_
          refine .p rfl rfl (.indexAddr (s := 2) rfl rfl rfl rfl (by omega)) ?_
          refine .p rfl rfl (.fieldAddr rfl rfl rfl rfl) ?_
          refine .p rfl rfl (.load rfl rfl rfl (hcm' 0 _ rfl)) ?_
          refine .p rfl rfl (.ne rfl rfl) ?_
          refine .p rfl rfl (.mv rfl) ?_
          refine .caseD 49 rfl (fun c49 => ?_) (fun c49 => ?_)
          · refine .skip rfl rfl ?_
            refine .skip rfl rfl ?_
            refine .skip rfl rfl ?_
            refine .skip rfl rfl ?_
            refine .skip rfl rfl ?_
            refine .skip rfl rfl ?_
            refine .skip rfl rfl ?_
            refine .skip rfl rfl ?_
            refine .skip rfl rfl ?_
            refine .skip rfl rfl ?_
            refine .skip rfl rfl ?_
            refine .skip rfl rfl ?_
            refine .skip rfl rfl ?_
            refine .skip rfl rfl ?_
            refine .skip rfl rfl ?_
            refine .p rfl rfl (.pickT rfl rfl) ?_
            refine .nil (.code (.keep [(65, _), (2, _), (3, _), (5, _)] ⟨rfl, rfl, rfl, rfl, trivial⟩ (.condT rfl (.seq (.keep [] trivial (.region ?_))))))
            refine .p rfl rfl (.as rfl) ?_
            refine .nil (.code ?_)
            refine .ret _ rfl ?_
            exact ⟨by rw [decide_eq_false (fun h => c49 (by cases h; rfl))]; rfl, X3⟩
          · refine .p rfl rfl (.fieldAddr rfl rfl rfl rfl) ?_
            refine .p rfl rfl (.load rfl rfl rfl (B2.cell 2)) ?_
            refine .p rfl rfl (.mv rfl) ?_
            refine .p rfl rfl (.indexAddr (s := 2) rfl rfl rfl rfl (by omega)) ?_
            refine .p rfl rfl (.fieldAddr rfl rfl rfl rfl) ?_
            refine .p rfl rfl (.load rfl rfl rfl (hcs' 1 _ rfl)) ?_
            refine .p rfl rfl (.bytesStr rfl (tBytes.ext0 hudl X3) rfl rfl rfl) ?_
            refine .p rfl rfl (.fieldAddr rfl rfl rfl rfl) ?_
            refine .p rfl rfl (.load rfl rfl rfl (B3.cell 2)) ?_
            refine .p rfl rfl (.mv rfl) ?_
            refine .p rfl rfl (.indexAddr (s := 2) rfl rfl rfl rfl (by omega)) ?_
            refine .p rfl rfl (.fieldAddr rfl rfl rfl rfl) ?_
            refine .p rfl rfl (.load rfl rfl rfl (hcm' 1 _ rfl)) ?_
            refine .p rfl rfl (.bytesStr rfl (tBytes.ext0 hudm X3) rfl rfl rfl) ?_
            refine .p rfl rfl (.neS rfl rfl) ?_
            refine .p rfl rfl (.pickF rfl rfl) ?_
            refine .nil (.code (.keep [(65, _), (2, _), (3, _), (5, _)] ⟨rfl, rfl, rfl, rfl, trivial⟩ ?_))
            refine .condD rfl (fun c65 => ?_) (fun c65 => ?_)
            · refine .seq (.keep [] trivial (.region ?_))
              refine .p rfl rfl (.as rfl) ?_
              refine .nil (.code ?_)
              refine .ret _ rfl ?_
              exact ⟨by rw [decide_eq_false (fun h => c65 (by cases h; rfl))]; rfl, X3⟩
            · refine .skip (.blk (.code (.keep [(2, _), (3, _), (5, _)] ⟨rfl, rfl, rfl, trivial⟩ (.region ?_))))
              refine .p rfl rfl (.mv rfl) ?_
              refine .p rfl rfl (.add rfl rfl (by omega)) ?_
              refine .p rfl rfl (.as rfl) ?_
              refine .nil ?_
              have c49 : aw[i].sector = bw[i].sector := Decidable.not_not.1 c49
              exact (again (i + 1) ⟨by show i + 1 ≤ _; omega, by show aw.take (i + 1) = bw.take (i + 1); rw [List.take_succ_eq_append_getElem hil, List.take_succ_eq_append_getElem him, htk, put_ext c49 (Decidable.not_not.1 c65)]⟩ (by show _ - (i + 1) < _ - i; omega)).of ⟨rfl, rfl, rfl, trivial⟩
        · refine .exit rfl (.code (.seq (.keep [] trivial (.region ?_))))
          refine .p rfl rfl (.as rfl) ?_
          refine .nil (.code ?_)
          refine .ret _ rfl ?_
          obtain rfl : i = aw.length := by omega
          rw [List.take_length, hlen, List.take_length] at htk
          subst htk
          exact ⟨by rw [decide_eq_true rfl]; rfl, X3⟩
end Go.Proofs.Ytapdacjpmmjlhaa
