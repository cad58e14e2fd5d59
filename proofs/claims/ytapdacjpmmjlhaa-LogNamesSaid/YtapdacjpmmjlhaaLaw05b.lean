
/-
  The statements of chapter 05: what they go through; lists of texts compared; acts written over. LogTurns: walked.
-/
import Derived.Test.YtapdacjpmmjlhaaLaw02
import Derived.Test.YtapdacjpmmjlhaaLog5
import Derived.Test.YtapdacjpmmjlhaaRef05d
set_option linter.unusedVariables false
set_option linter.unusedSimpArgs false
set_option maxRecDepth 20000
namespace Go.Proofs.Ytapdacjpmmjlhaa
open Go disk log
namespace log
def largeP (d : Disk) : Prop := (40000 < d.data.length ∧ 0 < d.count ∧ d.count ≤ 4096) ∨ 600000 < d.data.length ∨ 300 < d.waits.length
instance (d : Disk) : Decidable (log.largeP d) := by unfold log.largeP; infer_instance
def largeL (d : Disk) : Bool := decide (log.largeP d)
theorem largeL_not {d : Disk} (h : largeL d = false) : d.data.length ≤ 600000 ∧ d.waits.length ≤ 300 := by
  have h := of_decide_eq_false h
  unfold log.largeP at h
  omega
end log
theorem disk_shape {P : Nat → Prop} {w : World} {v : Value} {d : Disk} (h : tDisk.rep P w v d) : ∃ a1 c1 a2 c2, v = .agg #[i64 d.count, .slice a1 d.data.length c1, .slice a2 d.waits.length c2] := by
  obtain ⟨u, u', rfl, h1, h2, _⟩ := tDisk.val h
  obtain ⟨a1, c1, rfl, _⟩ := Sl.val h1
  obtain ⟨a2, c2, rfl, _⟩ := Sl.val h2
  exact ⟨_, _, _, _, rfl⟩
/-- acts whose bytes may be written -/
def WrA (W : World) (bw : Nat) (Q : Nat → Prop) (xs : List disk.Act) : Prop := xs = [] ∨ ∃ cs, Blk W bw 64 cs ∧ ∀ j (h : j < xs.length), j * 3 + 1 + 1 < cs.length ∧ ∃ v, cs[j * 3 + 1 + 1]? = some v ∧ WrB W Q v xs[j].put.data.length
section
variable {W W2 : World} {bw b k : Nat} {Q : Nat → Prop} {xs : List disk.Act} {ds : List Value} {u v : Value}
theorem WrA.data (h : WrA W bw Q xs) {i : Nat} (hi : i < xs.length) : ∃ a c, W.cell? ⟨bw, i * 3 + 1 + 1, none⟩ = some (.slice a xs[i].put.data.length c) ∧ WrB W Q (.slice a xs[i].put.data.length c) xs[i].put.data.length := by
  rcases h with rfl | ⟨cs, hB, h⟩
  · exact absurd hi (Nat.not_lt_zero _)
  · obtain ⟨h1, v, h2, h3⟩ := h i hi
    obtain ⟨a, c, rfl⟩ := h3.val
    exact ⟨a, c, by rw [hB.cell]; exact h2, h3⟩
theorem WrA.putD (h : WrA W bw Q xs) (hB : Blk W b 5 ds) (P : Go.Proofs.Ytapdacjpmmjlhaa.Put W W2 b 5 (ds.set k u)) (hne : bw ≠ b) : WrA W2 bw Q xs := by
  rcases h with h | ⟨cs, hC, h⟩
  · exact .inl h
  · refine .inr ⟨cs, hC.ext P.ext hne, fun j hj => ?_⟩
    obtain ⟨h1, v, h2, h3⟩ := h j hj
    exact ⟨h1, v, h2, h3.put hB P⟩
theorem WrA.of (h : Own tActO Q 64 W v xs b) : WrA W b Q xs := by
  obtain ⟨hl, ⟨rfl, rfl⟩ | ⟨cap, us, sp, rfl, hc, he, hB, hn⟩⟩ := h
  · exact .inl rfl
  · refine .inr ⟨_, hB, fun j hj => ?_⟩
    have hsz := he.mem (n := 3) (fun u x h => tActO.sz h)
    obtain ⟨u, hu, hr⟩ := he.get (List.getElem?_eq_getElem hj)
    obtain ⟨ud, rfl, hud, _⟩ := tActO.val hr
    have hlt : j < us.length := (List.getElem?_eq_some_iff.1 hu).1
    have hfl := flat_length hsz
    refine ⟨by rw [List.length_append, hfl]; omega, ud, ?_, ?_⟩
    · rw [List.getElem?_append_left (by rw [hfl]; omega), Nat.add_assoc, flat_at hsz hu (by omega)]
      rfl
    · rcases hud with ⟨h1, rfl⟩ | ⟨b1, h1, h2, h3⟩
      · exact .inl ⟨by rw [h1]; rfl, rfl⟩
      · exact WrB.of h3 (fun _ => h1)
theorem WrA.ofO {B : Nat → Prop} (h : OwnO tActO Q 64 W v xs B) (hq : ∀ k, Q k → ¬ B k) : ∃ b a c, v = .slice a xs.length c ∧ (xs = [] ∨ a = some ⟨b, 0, none⟩) ∧ WrA W b Q xs ∧ (∀ k, Q k → k ≠ b ∨ xs = []) := by
  obtain ⟨a, c, rfl, _⟩ := OwnO.val h
  rcases h with ⟨rfl, h⟩ | ⟨b, h1, h2, h3⟩
  · exact ⟨0, a, c, rfl, .inl rfl, .inl rfl, fun _ _ => .inr rfl⟩
  · refine ⟨b, a, c, rfl, ?_, WrA.of h3, fun k hk => .inl (fun e => hq k hk (by rw [e]; exact h1))⟩
    obtain ⟨_, ⟨h4, _⟩ | ⟨cap, us, sp, h4, _⟩⟩ := h3
    · exact .inl h4
    · cases h4; exact .inr rfl
end
theorem acts_lim {w : World} {v : Value} {l : List disk.Act} (h : (Sl tAct).rep All w v l) {j : Nat} (hj : j < l.length) : l[j].put.data.length < Lim := by
  obtain ⟨_, _, _, _, _, _, _, hr⟩ := Sl.at h (List.getElem?_eq_getElem hj)
  obtain ⟨ud, _, hud, _⟩ := tAct.val hr
  exact Sl.lim hud
theorem largeL_fn {w : World} {v : Value} {d : Disk} (h : tDisk.rep All w v d) : Fn Try.prog 15 [v] w (fun r w2 => r = .bool (largeL d) ∧ Ext (fun _ => False) w w2) := by
  obtain ⟨u, u', rfl, hd, hw, hc1, hc2⟩ := tDisk.val h
  obtain ⟨a, cap, rfl, hcap⟩ := Sl.val hd
  obtain ⟨aw, capw, rfl, hcapw⟩ := Sl.val hw
  refine Fn.enter (fun w => Try.call15 _ w) Try.func15 rfl ?_
  refine .seq (.region ?_)
  refine .v rfl rfl (.box rfl) ?_
  rintro _ w1 ⟨rfl, N1⟩
  have B1 := N1.blk
  refine .p rfl rfl (.as rfl) ?_
  refine .nil (.code (.seq (.keep [(1, _)] ⟨rfl, trivial⟩ (.region ?_))))
  refine .p rfl rfl (.fieldAddr rfl rfl rfl rfl) ?_
  refine .p rfl rfl (.load rfl rfl rfl (B1.cell 1)) ?_
  refine .p rfl rfl (.len rfl rfl) ?_
  refine .p rfl rfl (.gt rfl rfl) ?_
  refine .p rfl rfl (.mv rfl) ?_
  refine .caseD 7 rfl (fun c7 => ?_) (fun c7 => ?_)
  · refine .p rfl rfl (.fieldAddr rfl rfl rfl rfl) ?_
    refine .p rfl rfl (.load rfl rfl rfl (B1.cell 0)) ?_
    refine .p rfl rfl (.gt rfl rfl) ?_
    refine .p rfl rfl (.pickT rfl rfl) ?_
    refine .p rfl rfl (.mv rfl) ?_
    refine .caseD 12 rfl (fun c12 => ?_) (fun c12 => ?_)
    · refine .p rfl rfl (.fieldAddr rfl rfl rfl rfl) ?_
      refine .p rfl rfl (.load rfl rfl rfl (B1.cell 0)) ?_
      refine .p rfl rfl (.le rfl rfl) ?_
      refine .p rfl rfl (.pickT rfl rfl) ?_
      refine .p rfl rfl (.mv rfl) ?_
      refine .caseD 17 rfl (fun c17 => ?_) (fun c17 => ?_)
      · refine .skip rfl rfl ?_
        refine .skip rfl rfl ?_
        refine .skip rfl rfl ?_
        refine .skip rfl rfl ?_
        refine .p rfl rfl (.pickT rfl rfl) ?_
        refine .p rfl rfl (.mv rfl) ?_
        refine .skip rfl rfl ?_
        refine .skip rfl rfl ?_
        refine .skip rfl rfl ?_
        refine .skip rfl rfl ?_
        refine .p rfl rfl (.pickT rfl rfl) ?_
        refine .p rfl rfl (.as rfl) ?_
        refine .nil (.code ?_)
        refine .ret _ rfl ?_
        refine ⟨?_, N1.ext⟩
        first
          | (rw [show largeL d = true from decide_eq_true (by unfold log.largeP; omega)]; rfl)
          | (rw [show largeL d = false from decide_eq_false (by unfold log.largeP; omega)]; rfl)
          | exact congrArg Value.bool (decide_eq_decide.2 ⟨fun hh => by unfold log.largeP; omega, fun hh => by unfold log.largeP at hh; omega⟩)
      · refine .p rfl rfl (.fieldAddr rfl rfl rfl rfl) ?_
        refine .p rfl rfl (.load rfl rfl rfl (B1.cell 1)) ?_
        refine .p rfl rfl (.len rfl rfl) ?_
        refine .p rfl rfl (.gt rfl rfl) ?_
        refine .p rfl rfl (.pickF rfl rfl) ?_
        refine .p rfl rfl (.mv rfl) ?_
        refine .caseD 23 rfl (fun c23 => ?_) (fun c23 => ?_)
        · refine .skip rfl rfl ?_
          refine .skip rfl rfl ?_
          refine .skip rfl rfl ?_
          refine .skip rfl rfl ?_
          refine .p rfl rfl (.pickT rfl rfl) ?_
          refine .p rfl rfl (.as rfl) ?_
          refine .nil (.code ?_)
          refine .ret _ rfl ?_
          refine ⟨?_, N1.ext⟩
          first
            | (rw [show largeL d = true from decide_eq_true (by unfold log.largeP; omega)]; rfl)
            | (rw [show largeL d = false from decide_eq_false (by unfold log.largeP; omega)]; rfl)
            | exact congrArg Value.bool (decide_eq_decide.2 ⟨fun hh => by unfold log.largeP; omega, fun hh => by unfold log.largeP at hh; omega⟩)
        · refine .p rfl rfl (.fieldAddr rfl rfl rfl rfl) ?_
          refine .p rfl rfl (.load rfl rfl rfl (B1.cell 2)) ?_
          refine .p rfl rfl (.len rfl rfl) ?_
          refine .p rfl rfl (.gt rfl rfl) ?_
          refine .p rfl rfl (.pickF rfl rfl) ?_
          refine .p rfl rfl (.as rfl) ?_
          refine .nil (.code ?_)
          refine .ret _ rfl ?_
          refine ⟨?_, N1.ext⟩
          first
            | (rw [show largeL d = true from decide_eq_true (by unfold log.largeP; omega)]; rfl)
            | (rw [show largeL d = false from decide_eq_false (by unfold log.largeP; omega)]; rfl)
            | exact congrArg Value.bool (decide_eq_decide.2 ⟨fun hh => by unfold log.largeP; omega, fun hh => by unfold log.largeP at hh; omega⟩)
    · refine .skip rfl rfl ?_
      refine .skip rfl rfl ?_
      refine .skip rfl rfl ?_
      refine .p rfl rfl (.pickF rfl rfl) ?_
      refine .p rfl rfl (.mv rfl) ?_
      refine .p rfl rfl (.fieldAddr rfl rfl rfl rfl) ?_
      refine .p rfl rfl (.load rfl rfl rfl (B1.cell 1)) ?_
      refine .p rfl rfl (.len rfl rfl) ?_
      refine .p rfl rfl (.gt rfl rfl) ?_
      refine .p rfl rfl (.pickF rfl rfl) ?_
      refine .p rfl rfl (.mv rfl) ?_
      refine .caseD 23 rfl (fun c23 => ?_) (fun c23 => ?_)
      · refine .skip rfl rfl ?_
        refine .skip rfl rfl ?_
        refine .skip rfl rfl ?_
        refine .skip rfl rfl ?_
        refine .p rfl rfl (.pickT rfl rfl) ?_
        refine .p rfl rfl (.as rfl) ?_
        refine .nil (.code ?_)
        refine .ret _ rfl ?_
        refine ⟨?_, N1.ext⟩
        first
          | (rw [show largeL d = true from decide_eq_true (by unfold log.largeP; omega)]; rfl)
          | (rw [show largeL d = false from decide_eq_false (by unfold log.largeP; omega)]; rfl)
          | exact congrArg Value.bool (decide_eq_decide.2 ⟨fun hh => by unfold log.largeP; omega, fun hh => by unfold log.largeP at hh; omega⟩)
      · refine .p rfl rfl (.fieldAddr rfl rfl rfl rfl) ?_
        refine .p rfl rfl (.load rfl rfl rfl (B1.cell 2)) ?_
        refine .p rfl rfl (.len rfl rfl) ?_
        refine .p rfl rfl (.gt rfl rfl) ?_
        refine .p rfl rfl (.pickF rfl rfl) ?_
        refine .p rfl rfl (.as rfl) ?_
        refine .nil (.code ?_)
        refine .ret _ rfl ?_
        refine ⟨?_, N1.ext⟩
        first
          | (rw [show largeL d = true from decide_eq_true (by unfold log.largeP; omega)]; rfl)
          | (rw [show largeL d = false from decide_eq_false (by unfold log.largeP; omega)]; rfl)
          | exact congrArg Value.bool (decide_eq_decide.2 ⟨fun hh => by unfold log.largeP; omega, fun hh => by unfold log.largeP at hh; omega⟩)
  · refine .skip rfl rfl ?_
    refine .skip rfl rfl ?_
    refine .skip rfl rfl ?_
    refine .p rfl rfl (.pickF rfl rfl) ?_
    refine .p rfl rfl (.mv rfl) ?_
    refine .skip rfl rfl ?_
    refine .skip rfl rfl ?_
    refine .skip rfl rfl ?_
    refine .p rfl rfl (.pickF rfl rfl) ?_
    refine .p rfl rfl (.mv rfl) ?_
    refine .p rfl rfl (.fieldAddr rfl rfl rfl rfl) ?_
    refine .p rfl rfl (.load rfl rfl rfl (B1.cell 1)) ?_
    refine .p rfl rfl (.len rfl rfl) ?_
    refine .p rfl rfl (.gt rfl rfl) ?_
    refine .p rfl rfl (.pickF rfl rfl) ?_
    refine .p rfl rfl (.mv rfl) ?_
    refine .caseD 23 rfl (fun c23 => ?_) (fun c23 => ?_)
    · refine .skip rfl rfl ?_
      refine .skip rfl rfl ?_
      refine .skip rfl rfl ?_
      refine .skip rfl rfl ?_
      refine .p rfl rfl (.pickT rfl rfl) ?_
      refine .p rfl rfl (.as rfl) ?_
      refine .nil (.code ?_)
      refine .ret _ rfl ?_
      refine ⟨?_, N1.ext⟩
      first
        | (rw [show largeL d = true from decide_eq_true (by unfold log.largeP; omega)]; rfl)
        | (rw [show largeL d = false from decide_eq_false (by unfold log.largeP; omega)]; rfl)
        | exact congrArg Value.bool (decide_eq_decide.2 ⟨fun hh => by unfold log.largeP; omega, fun hh => by unfold log.largeP at hh; omega⟩)
    · refine .p rfl rfl (.fieldAddr rfl rfl rfl rfl) ?_
      refine .p rfl rfl (.load rfl rfl rfl (B1.cell 2)) ?_
      refine .p rfl rfl (.len rfl rfl) ?_
      refine .p rfl rfl (.gt rfl rfl) ?_
      refine .p rfl rfl (.pickF rfl rfl) ?_
      refine .p rfl rfl (.as rfl) ?_
      refine .nil (.code ?_)
      refine .ret _ rfl ?_
      refine ⟨?_, N1.ext⟩
      first
        | (rw [show largeL d = true from decide_eq_true (by unfold log.largeP; omega)]; rfl)
        | (rw [show largeL d = false from decide_eq_false (by unfold log.largeP; omega)]; rfl)
        | exact congrArg Value.bool (decide_eq_decide.2 ⟨fun hh => by unfold log.largeP; omega, fun hh => by unfold log.largeP at hh; omega⟩)
theorem texts_fn {w : World} {v u : Value} {a b : List Bs} (ha : tStrs.rep All w v a) (hb : tStrs.rep All w u b) : Fn Try.prog 27 [v, u] w (fun r w2 => r = .bool (decide (a = b)) ∧ Ext (fun _ => False) w w2) := by
  obtain ⟨x2, y2, rfl, _⟩ := Sl.val ha
  obtain ⟨x4, y4, rfl, _⟩ := Sl.val hb
  have hl1 := Sl.lim ha
  have hl2 := Sl.lim hb
  simp only [Lim] at hl1 hl2
  refine Fn.enter (fun w => Try.call27 _ w) Try.func27 rfl ?_
  refine .seq (.region ?_)
  refine .p rfl rfl (.as rfl) ?_
  refine .nil (.code (.seq (.seq (.keep [(0, _), (1, _)] ⟨rfl, rfl, trivial⟩ (.region ?_)))))
  refine .p rfl rfl (.mv rfl) ?_
  refine .p rfl rfl (.len rfl rfl) ?_
  refine .p rfl rfl (.mv rfl) ?_
  refine .p rfl rfl (.len rfl rfl) ?_
  refine .p rfl rfl (.ne rfl rfl) ?_
  refine .nil (.code (.keep [(10, _), (0, _), (1, _)] ⟨rfl, rfl, rfl, trivial⟩ ?_))
  refine .condD rfl (fun c10 => ?_) (fun c10 => ?_)
  · refine .seq (.keep [] trivial (.region ?_))
    refine .p rfl rfl (.as rfl) ?_
    refine .nil (.code ?_)
    refine .ret _ rfl ?_
    exact ⟨by rw [decide_eq_false (fun h => c10 (by cases h; rfl))]; rfl, .refl _⟩
  · refine .skip (.code (.seq (.seq (.keep [(0, _), (1, _)] ⟨rfl, rfl, trivial⟩ (.region ?_)))))
    refine .p rfl rfl (.as rfl) ?_
    refine .nil (.code (.block ?_))
    have hlen : a.length = b.length := by omega
    refine .loop (S := Nat) (fun s => [(0, .slice x2 a.length y2), (1, .slice x4 b.length y4), (5, i64 s)]) (fun s => w) (fun s => s ≤ a.length ∧ a.take s = b.take s) (fun s => a.length - s) 0 ⟨rfl, rfl, rfl, trivial⟩ rfl ⟨Nat.zero_le _, rfl⟩ ?_
    rintro i J ⟨hi', htk⟩ again
    refine .seq (.seq (.region ?_))
    refine .p rfl rfl (.mv rfl) ?_
    refine .p rfl rfl (.mv rfl) ?_
    refine .p rfl rfl (.len rfl rfl) ?_
    refine .p rfl rfl (.lt rfl rfl) ?_
    refine .nil (.code (.keep [(14, _), (0, _), (1, _), (5, _)] ⟨rfl, rfl, rfl, rfl, trivial⟩ ?_))
    refine .condD rfl (fun c14 => ?_) (fun c14 => ?_)
    · have hil : i < a.length := by omega
      have him : i < b.length := by omega
      obtain ⟨b1, o1, rfl, _, hca, _⟩ := Sl.strAt ha hil
      obtain ⟨b2, o2, rfl, _, hcb, _⟩ := Sl.strAt hb him
      refine .skip (.code (.seq (.block (.seq (.keep [(0, _), (1, _), (5, _)] ⟨rfl, rfl, rfl, trivial⟩ (.draws (by kernel_rfl) (by kernel_rfl) ?_))))))
      refine .p rfl rfl (.mv rfl) ?_
      refine .p rfl rfl (.mv rfl) ?_
      refine .p rfl rfl (.indexAddr1 rfl rfl rfl rfl (by omega)) ?_
      refine .p rfl rfl (.load rfl rfl rfl hca) ?_
      refine .p rfl rfl (.mv rfl) ?_
      refine .p rfl rfl (.mv rfl) ?_
      refine .p rfl rfl (.indexAddr1 rfl rfl rfl rfl (by omega)) ?_
      refine .p rfl rfl (.load rfl rfl rfl hcb) ?_
      refine .p rfl rfl (.neS rfl rfl) ?_
      refine .nil (.code (.keep [(25, _), (0, _), (1, _), (5, _)] ⟨rfl, rfl, rfl, rfl, trivial⟩ ?_))
      refine .condD rfl (fun c25 => ?_) (fun c25 => ?_)
      · refine .seq (.keep [] trivial (.region ?_))
        refine .p rfl rfl (.as rfl) ?_
        refine .nil (.code ?_)
        refine .ret _ rfl ?_
        exact ⟨by rw [decide_eq_false (fun h => c25 (by cases h; rfl))]; rfl, .refl _⟩
      · refine .skip (.blk (.code (.keep [(0, _), (1, _), (5, _)] ⟨rfl, rfl, rfl, trivial⟩ (.region ?_))))
        refine .p rfl rfl (.mv rfl) ?_
        refine .p rfl rfl (.add rfl rfl (by omega)) ?_
        refine .p rfl rfl (.as rfl) ?_
        refine .nil ?_
        exact (again (i + 1) ⟨by show i + 1 ≤ _; omega, by show a.take (i + 1) = b.take (i + 1); rw [List.take_succ_eq_append_getElem hil, List.take_succ_eq_append_getElem him, htk, Decidable.not_not.1 c25]⟩ (by show _ - (i + 1) < _ - i; omega)).of ⟨rfl, rfl, rfl, trivial⟩
    · refine .exit rfl (.code (.seq (.keep [] trivial (.region ?_))))
      refine .p rfl rfl (.as rfl) ?_
      refine .nil (.code ?_)
      refine .ret _ rfl ?_
      obtain rfl : i = a.length := by omega
      rw [List.take_length, hlen, List.take_length] at htk
      subst htk
      exact ⟨by rw [decide_eq_true rfl]; rfl, .refl _⟩
theorem textsT_fn {w : World} {v u : Value} {a : List Bs} (ha : tStrs.rep All w v a) (hb : tStrs.rep All w u a) : Fn Try.prog 27 [v, u] w (fun r w2 => r = .bool true ∧ Ext (fun _ => False) w w2) :=
  (texts_fn ha hb).mono (by rintro r w2 ⟨rfl, hx⟩; exact ⟨by rw [decide_eq_true rfl], hx⟩)
theorem SameActsT_fn {w : World} {v u : Value} {a : List disk.Act} (ha : (Sl tAct).rep All w v a) (hb : (Sl tAct).rep All w u a) : Fn Try.prog 28 [v, u] w (fun r w2 => r = .bool true ∧ Ext (fun _ => False) w w2) :=
  (SameActs_fn ha hb).mono (by rintro r w2 ⟨rfl, hx⟩; exact ⟨by rw [decide_eq_true rfl], hx⟩)
theorem LogTurns_fn {w : World} {v : Value} {d : Disk} {record : Bs} (h : tDisk.rep All w v d) (hr : record.length < Lim) : Fn Try.prog 4 [v, str record] w (fun r w2 => r = .bool true ∧ Ext (fun _ => False) w w2) := by
  have R0 := tDisk.mono h (P' := fun k => k < w.heap.size) (fun k _ h => h)
  obtain ⟨u1, q1, u2, q2, rfl⟩ := disk_shape h
  simp only [Lim] at hr
  refine Fn.enter (fun w => Try.call4 _ w) Try.func4 rfl ?_
  refine .seq (.region ?_)
  refine .v rfl rfl (.box rfl) ?_
  rintro _ w2 ⟨rfl, N2⟩
  have X2 := N2.ext
  have z2 := N2.size
  have B2 := N2.blk
  refine .p rfl rfl (.as rfl) ?_
  refine .nil (.code (.seq (.seq (.keep [(2, _), (1, _)] ⟨rfl, rfl, trivial⟩ (.region ?_)))))
  refine .p rfl rfl (.loadA (n := 3) rfl rfl rfl rfl rfl (B2.ext (S := fun _ => False) (by repeat (first | exact Ext.refl _ | assumption | refine Ext.trans (by assumption) ?_)) (fun x => x)).cells) ?_
  refine .call (first := []) (captured := []) rfl rfl rfl rfl (largeL_fn (tDisk.ext0 h X2)) ?_
  rintro _ w29 ⟨rfl, X29⟩
  have z29 := X29.size
  refine .p rfl rfl (.mv rfl) ?_
  refine .case 30 rfl (fun c30 => ?_) (fun c30 => ?_)
  · refine .skip rfl rfl ?_
    refine .skip rfl rfl ?_
    refine .skip rfl rfl ?_
    refine .p rfl rfl (.pickT rfl rfl) ?_
    refine .nil (.code (.keep [(34, _), (2, _), (1, _)] ⟨rfl, rfl, rfl, trivial⟩ (.condT rfl (.seq (.keep [] trivial (.region ?_))))))
    refine .p rfl rfl (.as rfl) ?_
    refine .nil (.code ?_)
    refine .ret _ rfl ?_
    exact ⟨rfl, X2.trans X29⟩
  · obtain ⟨hl1, hl2⟩ := largeL_not c30
    refine .p rfl rfl (.mv rfl) ?_
    refine .p rfl rfl (.lenS rfl rfl) ?_
    refine .p rfl rfl (.gt rfl rfl) ?_
    refine .p rfl rfl (.pickF rfl rfl) ?_
    refine .nil (.code (.keep [(34, _), (2, _), (1, _)] ⟨rfl, rfl, rfl, trivial⟩ ?_))
    refine .condD rfl (fun c34 => ?_) (fun c34 => ?_)
    · refine .seq (.keep [] trivial (.region ?_))
      refine .p rfl rfl (.as rfl) ?_
      refine .nil (.code ?_)
      refine .ret _ rfl ?_
      exact ⟨rfl, X2.trans X29⟩
    · refine .skip (.code (.seq (.keep [(2, _), (1, _)] ⟨rfl, rfl, trivial⟩ (.region ?_))))
      refine .p rfl rfl (.loadA (n := 3) rfl rfl rfl rfl rfl (B2.ext (S := fun _ => False) (by repeat (first | exact Ext.refl _ | assumption | refine Ext.trans (by assumption) ?_)) (fun x => x)).cells) ?_
      refine .call (first := []) (captured := []) rfl rfl rfl rfl (refTwin_fn (allOf (tDisk.ext0 R0 (by repeat (first | exact Ext.refl _ | assumption | refine Ext.trans (by assumption) ?_)))) (by omega)) ?_
      rintro r36 w36 ⟨D36, X36⟩
      have z36 := X36.size
      obtain ⟨x1, y1, x2, y2, rfl⟩ := D36.val
      have R36 := tDisk.mono D36.rep (P' := fun k => k < w36.heap.size) (fun k _ h => h)
      refine .v rfl rfl (.alloc rfl rfl) ?_
      rintro _ wn5 ⟨rfl, N5⟩
      refine .s rfl (.storeAll (n := 3) rfl rfl rfl rfl rfl N5.blk rfl) ?_
      intro w5 P5
      have X5 := N5.ext.then P5.ext (by rintro k rfl _; exact Nat.le_refl _)
      have z5 := X5.size
      have B5 := P5.blk
      have l5 := B5.lt
      clear N5 P5
      refine .nil (.code (.seq (.keep [(5, _), (2, _), (1, _)] ⟨rfl, rfl, rfl, trivial⟩ (.region ?_))))
      refine .p rfl rfl (.loadA (n := 3) rfl rfl rfl rfl rfl (B5.ext (S := fun _ => False) (by repeat (first | exact Ext.refl _ | assumption | refine Ext.trans (by assumption) ?_)) (fun x => x)).cells) ?_
      refine .call (first := []) (captured := []) rfl rfl rfl rfl (Records_fn (allOf (tDisk.ext0 R36 (by repeat (first | exact Ext.refl _ | assumption | refine Ext.trans (by assumption) ?_))))) ?_
      rintro _ w39 ⟨v39, rfl, R39, X39⟩
      have z39 := X39.size
      refine .p rfl rfl (.mv rfl) ?_
      refine .p rfl rfl (.extract rfl rfl) ?_
      refine .p rfl rfl (.extract rfl rfl) ?_
      refine .p rfl rfl (.as rfl) ?_
      refine .p rfl rfl (.as rfl) ?_
      refine .nil (.code (.seq (.keep [(7, _), (6, _), (5, _), (2, _), (1, _)] ⟨rfl, rfl, rfl, rfl, rfl, trivial⟩ (.region ?_))))
      refine .p rfl rfl (.loadA (n := 3) rfl rfl rfl rfl rfl (B2.ext (S := fun _ => False) (by repeat (first | exact Ext.refl _ | assumption | refine Ext.trans (by assumption) ?_)) (fun x => x)).cells) ?_
      refine .call (first := []) (captured := []) rfl rfl rfl rfl (RefRecords_fn (allOf (tDisk.ext0 R0 (by repeat (first | exact Ext.refl _ | assumption | refine Ext.trans (by assumption) ?_))))) ?_
      rintro _ w44 ⟨v44, rfl, R44, X44⟩
      have z44 := X44.size
      refine .p rfl rfl (.mv rfl) ?_
      refine .p rfl rfl (.extract rfl rfl) ?_
      refine .p rfl rfl (.extract rfl rfl) ?_
      refine .p rfl rfl (.as rfl) ?_
      refine .p rfl rfl (.as rfl) ?_
      refine .nil (.code (.seq (.keep [(9, _), (8, _), (7, _), (6, _), (5, _), (2, _), (1, _)] ⟨rfl, rfl, rfl, rfl, rfl, rfl, rfl, trivial⟩ (.region ?_))))
      refine .p rfl rfl (.loadA (n := 3) rfl rfl rfl rfl rfl (B5.ext (S := fun _ => False) (by repeat (first | exact Ext.refl _ | assumption | refine Ext.trans (by assumption) ?_)) (fun x => x)).cells) ?_
      refine .call (first := []) (captured := []) rfl rfl rfl rfl (At_fn (allOf (tDisk.ext0 R36 (by repeat (first | exact Ext.refl _ | assumption | refine Ext.trans (by assumption) ?_))))) ?_
      rintro _ w49 ⟨rfl, X49⟩
      have z49 := X49.size
      refine .p rfl rfl (.mv rfl) ?_
      refine .p rfl rfl (.extract rfl rfl) ?_
      refine .p rfl rfl (.extract rfl rfl) ?_
      refine .p rfl rfl (.as rfl) ?_
      refine .p rfl rfl (.as rfl) ?_
      refine .nil (.code (.seq (.keep [(11, _), (10, _), (9, _), (8, _), (7, _), (6, _), (5, _), (2, _), (1, _)] ⟨rfl, rfl, rfl, rfl, rfl, rfl, rfl, rfl, rfl, trivial⟩ (.region ?_))))
      refine .p rfl rfl (.loadA (n := 3) rfl rfl rfl rfl rfl (B2.ext (S := fun _ => False) (by repeat (first | exact Ext.refl _ | assumption | refine Ext.trans (by assumption) ?_)) (fun x => x)).cells) ?_
      refine .call (first := []) (captured := []) rfl rfl rfl rfl (RefAt_fn (allOf (tDisk.ext0 R0 (by repeat (first | exact Ext.refl _ | assumption | refine Ext.trans (by assumption) ?_))))) ?_
      rintro _ w54 ⟨rfl, X54⟩
      have z54 := X54.size
      refine .p rfl rfl (.mv rfl) ?_
      refine .p rfl rfl (.extract rfl rfl) ?_
      refine .p rfl rfl (.extract rfl rfl) ?_
      refine .p rfl rfl (.as rfl) ?_
      refine .p rfl rfl (.as rfl) ?_
      refine .nil (.code (.seq (.keep [(13, _), (12, _), (11, _), (10, _), (9, _), (8, _), (7, _), (6, _), (5, _), (2, _), (1, _)] ⟨rfl, rfl, rfl, rfl, rfl, rfl, rfl, rfl, rfl, rfl, rfl, trivial⟩ (.region ?_))))
      refine .p rfl rfl (.loadA (n := 3) rfl rfl rfl rfl rfl (B5.ext (S := fun _ => False) (by repeat (first | exact Ext.refl _ | assumption | refine Ext.trans (by assumption) ?_)) (fun x => x)).cells) ?_
      refine .call (first := []) (captured := []) rfl rfl rfl rfl (Epoch_fn (allOf (tDisk.ext0 R36 (by repeat (first | exact Ext.refl _ | assumption | refine Ext.trans (by assumption) ?_))))) ?_
      rintro _ w59 ⟨rfl, X59⟩
      have z59 := X59.size
      refine .p rfl rfl (.mv rfl) ?_
      refine .p rfl rfl (.extract rfl rfl) ?_
      refine .p rfl rfl (.extract rfl rfl) ?_
      refine .p rfl rfl (.as rfl) ?_
      refine .p rfl rfl (.as rfl) ?_
      refine .nil (.code (.seq (.keep [(15, _), (14, _), (13, _), (12, _), (11, _), (10, _), (9, _), (8, _), (7, _), (6, _), (5, _), (2, _), (1, _)] ⟨rfl, rfl, rfl, rfl, rfl, rfl, rfl, rfl, rfl, rfl, rfl, rfl, rfl, trivial⟩ (.region ?_))))
      refine .p rfl rfl (.loadA (n := 3) rfl rfl rfl rfl rfl (B2.ext (S := fun _ => False) (by repeat (first | exact Ext.refl _ | assumption | refine Ext.trans (by assumption) ?_)) (fun x => x)).cells) ?_
      refine .call (first := []) (captured := []) rfl rfl rfl rfl (RefEpoch_fn (allOf (tDisk.ext0 R0 (by repeat (first | exact Ext.refl _ | assumption | refine Ext.trans (by assumption) ?_))))) ?_
      rintro _ w64 ⟨rfl, X64⟩
      have z64 := X64.size
      refine .p rfl rfl (.mv rfl) ?_
      refine .p rfl rfl (.extract rfl rfl) ?_
      refine .p rfl rfl (.extract rfl rfl) ?_
      refine .p rfl rfl (.as rfl) ?_
      refine .p rfl rfl (.as rfl) ?_
      refine .nil (.code (.seq (.keep [(17, _), (16, _), (15, _), (14, _), (13, _), (12, _), (11, _), (10, _), (9, _), (8, _), (7, _), (6, _), (5, _), (2, _), (1, _)] ⟨rfl, rfl, rfl, rfl, rfl, rfl, rfl, rfl, rfl, rfl, rfl, rfl, rfl, rfl, rfl, trivial⟩ (.region ?_))))
      refine .p rfl rfl (.loadA (n := 3) rfl rfl rfl rfl rfl (B5.ext (S := fun _ => False) (by repeat (first | exact Ext.refl _ | assumption | refine Ext.trans (by assumption) ?_)) (fun x => x)).cells) ?_
      refine .p rfl rfl (.mv rfl) ?_
      refine .call (first := []) (captured := []) rfl rfl rfl rfl (Add_fn (allOf (tDisk.ext0 R36 (by repeat (first | exact Ext.refl _ | assumption | refine Ext.trans (by assumption) ?_)))) (by simp only [Lim]; omega)) ?_
      rintro _ w70 ⟨v70, Q70, B70, rfl, G70, hQ70, hB70, X70⟩
      have z70 := X70.size
      refine .p rfl rfl (.mv rfl) ?_
      refine .p rfl rfl (.extract rfl rfl) ?_
      refine .p rfl rfl (.extract rfl rfl) ?_
      refine .p rfl rfl (.as rfl) ?_
      refine .p rfl rfl (.as rfl) ?_
      refine .nil (.code (.seq (.keep [(19, _), (18, _), (17, _), (16, _), (15, _), (14, _), (13, _), (12, _), (11, _), (10, _), (9, _), (8, _), (7, _), (6, _), (5, _), (2, _), (1, _)] ⟨rfl, rfl, rfl, rfl, rfl, rfl, rfl, rfl, rfl, rfl, rfl, rfl, rfl, rfl, rfl, rfl, rfl, trivial⟩ (.region ?_))))
      refine .p rfl rfl (.loadA (n := 3) rfl rfl rfl rfl rfl (B2.ext (S := fun _ => False) (by repeat (first | exact Ext.refl _ | assumption | refine Ext.trans (by assumption) ?_)) (fun x => x)).cells) ?_
      refine .p rfl rfl (.mv rfl) ?_
      refine .call (first := []) (captured := []) rfl rfl rfl rfl (RefAdd_fn (allOf (tDisk.ext0 R0 (by repeat (first | exact Ext.refl _ | assumption | refine Ext.trans (by assumption) ?_)))) (by simp only [Lim]; omega)) ?_
      rintro _ w76 ⟨v76, rfl, R76, X76⟩
      have z76 := X76.size
      refine .p rfl rfl (.mv rfl) ?_
      refine .p rfl rfl (.extract rfl rfl) ?_
      refine .p rfl rfl (.extract rfl rfl) ?_
      refine .p rfl rfl (.as rfl) ?_
      refine .p rfl rfl (.as rfl) ?_
      refine .nil (.code (.seq (.keep [(21, _), (20, _), (19, _), (18, _), (17, _), (16, _), (15, _), (14, _), (13, _), (12, _), (11, _), (10, _), (9, _), (8, _), (7, _), (6, _), (5, _), (2, _)] ⟨rfl, rfl, rfl, rfl, rfl, rfl, rfl, rfl, rfl, rfl, rfl, rfl, rfl, rfl, rfl, rfl, rfl, rfl, trivial⟩ (.region ?_))))
      refine .p rfl rfl (.loadA (n := 3) rfl rfl rfl rfl rfl (B5.ext (S := fun _ => False) (by repeat (first | exact Ext.refl _ | assumption | refine Ext.trans (by assumption) ?_)) (fun x => x)).cells) ?_
      refine .call (first := []) (captured := []) rfl rfl rfl rfl (Clear_fn (allOf (tDisk.ext0 R36 (by repeat (first | exact Ext.refl _ | assumption | refine Ext.trans (by assumption) ?_))))) ?_
      rintro _ w81 ⟨v81, Q81, B81, rfl, G81, hQ81, hB81, X81⟩
      have z81 := X81.size
      refine .p rfl rfl (.mv rfl) ?_
      refine .p rfl rfl (.extract rfl rfl) ?_
      refine .p rfl rfl (.extract rfl rfl) ?_
      refine .p rfl rfl (.as rfl) ?_
      refine .p rfl rfl (.as rfl) ?_
      refine .nil (.code (.seq (.keep [(23, _), (22, _), (21, _), (20, _), (19, _), (18, _), (17, _), (16, _), (15, _), (14, _), (13, _), (12, _), (11, _), (10, _), (9, _), (8, _), (7, _), (6, _), (5, _), (2, _)] ⟨rfl, rfl, rfl, rfl, rfl, rfl, rfl, rfl, rfl, rfl, rfl, rfl, rfl, rfl, rfl, rfl, rfl, rfl, rfl, rfl, trivial⟩ (.region ?_))))
      refine .p rfl rfl (.loadA (n := 3) rfl rfl rfl rfl rfl (B2.ext (S := fun _ => False) (by repeat (first | exact Ext.refl _ | assumption | refine Ext.trans (by assumption) ?_)) (fun x => x)).cells) ?_
      refine .call (first := []) (captured := []) rfl rfl rfl rfl (RefClear_fn (allOf (tDisk.ext0 R0 (by repeat (first | exact Ext.refl _ | assumption | refine Ext.trans (by assumption) ?_))))) ?_
      rintro _ w86 ⟨v86, rfl, R86, X86⟩
      have z86 := X86.size
      generalize clearF d = cf at *
      generalize addF d record = af at *
      generalize stateF d = sf at *
      refine .p rfl rfl (.mv rfl) ?_
      refine .p rfl rfl (.extract rfl rfl) ?_
      refine .p rfl rfl (.extract rfl rfl) ?_
      refine .p rfl rfl (.as rfl) ?_
      refine .p rfl rfl (.as rfl) ?_
      refine .nil (.code (.seq (.seq (.keep [(25, _), (24, _), (23, _), (22, _), (21, _), (20, _), (19, _), (18, _), (17, _), (16, _), (15, _), (14, _), (13, _), (12, _), (11, _), (10, _), (9, _), (8, _), (7, _), (6, _), (5, _), (2, _)] ⟨rfl, rfl, rfl, rfl, rfl, rfl, rfl, rfl, rfl, rfl, rfl, rfl, rfl, rfl, rfl, rfl, rfl, rfl, rfl, rfl, rfl, rfl, trivial⟩ (.region ?_)))))
      refine .p rfl rfl (.mv rfl) ?_
      refine .p rfl rfl (.mv rfl) ?_
      refine .call (first := []) (captured := []) rfl rfl rfl rfl (textsT_fn (allOf (tStrs.ext0 R39 (by repeat (first | exact Ext.refl _ | assumption | refine Ext.trans (by assumption) ?_)))) (allOf (tStrs.ext0 R44 (by repeat (first | exact Ext.refl _ | assumption | refine Ext.trans (by assumption) ?_))))) ?_
      rintro _ w91 ⟨rfl, X91⟩
      have z91 := X91.size
      refine .p rfl rfl (.not rfl) ?_
      refine .p rfl rfl (.mv rfl) ?_
      refine .p rfl rfl (.mv rfl) ?_
      refine .p rfl rfl (.mv rfl) ?_
      refine .p rfl rfl (.no (.ne rfl rfl) (fun h => h rfl)) ?_
      refine .p rfl rfl (.pickF rfl rfl) ?_
      refine .p rfl rfl (.mv rfl) ?_
      refine .p rfl rfl (.mv rfl) ?_
      refine .p rfl rfl (.mv rfl) ?_
      refine .p rfl rfl (.no (.ne rfl rfl) (fun h => h rfl)) ?_
      refine .p rfl rfl (.pickF rfl rfl) ?_
      refine .p rfl rfl (.mv rfl) ?_
      refine .p rfl rfl (.mv rfl) ?_
      refine .p rfl rfl (.mv rfl) ?_
      refine .p rfl rfl (.no (.ne rfl rfl) (fun h => h rfl)) ?_
      refine .p rfl rfl (.pickF rfl rfl) ?_
      refine .p rfl rfl (.mv rfl) ?_
      refine .p rfl rfl (.mv rfl) ?_
      refine .p rfl rfl (.mv rfl) ?_
      refine .p rfl rfl (.no (.ne rfl rfl) (fun h => h rfl)) ?_
      refine .p rfl rfl (.pickF rfl rfl) ?_
      refine .p rfl rfl (.mv rfl) ?_
      refine .p rfl rfl (.mv rfl) ?_
      refine .p rfl rfl (.mv rfl) ?_
      refine .p rfl rfl (.no (.ne rfl rfl) (fun h => h rfl)) ?_
      refine .p rfl rfl (.pickF rfl rfl) ?_
      refine .p rfl rfl (.mv rfl) ?_
      refine .p rfl rfl (.mv rfl) ?_
      refine .p rfl rfl (.mv rfl) ?_
      refine .p rfl rfl (.no (.ne rfl rfl) (fun h => h rfl)) ?_
      refine .p rfl rfl (.pickF rfl rfl) ?_
      refine .p rfl rfl (.mv rfl) ?_
      refine .p rfl rfl (.mv rfl) ?_
      refine .p rfl rfl (.mv rfl) ?_
      refine .call (first := []) (captured := []) rfl rfl rfl rfl (SameActsT_fn (actsOwn (OwnO.ext0 G70 (by repeat (first | exact Ext.refl _ | assumption | refine Ext.trans (by assumption) ?_)))) ((Sl tAct).ext0 R76 (by repeat (first | exact Ext.refl _ | assumption | refine Ext.trans (by assumption) ?_)))) ?_
      rintro _ w126 ⟨rfl, X126⟩
      have z126 := X126.size
      refine .p rfl rfl (.not rfl) ?_
      refine .p rfl rfl (.pickF rfl rfl) ?_
      refine .p rfl rfl (.mv rfl) ?_
      refine .p rfl rfl (.mv rfl) ?_
      refine .p rfl rfl (.mv rfl) ?_
      refine .p rfl rfl (.no (.ne rfl rfl) (fun h => h rfl)) ?_
      refine .p rfl rfl (.pickF rfl rfl) ?_
      refine .p rfl rfl (.mv rfl) ?_
      refine .p rfl rfl (.mv rfl) ?_
      refine .p rfl rfl (.mv rfl) ?_
      refine .call (first := []) (captured := []) rfl rfl rfl rfl (SameActsT_fn (actsOwn (OwnO.ext0 G81 (by repeat (first | exact Ext.refl _ | assumption | refine Ext.trans (by assumption) ?_)))) ((Sl tAct).ext0 R86 (by repeat (first | exact Ext.refl _ | assumption | refine Ext.trans (by assumption) ?_)))) ?_
      rintro _ w137 ⟨rfl, X137⟩
      have z137 := X137.size
      refine .p rfl rfl (.not rfl) ?_
      refine .p rfl rfl (.pickF rfl rfl) ?_
      refine .nil (.code (.keep [(139, _), (18, _), (5, _), (2, _)] ⟨rfl, rfl, rfl, rfl, trivial⟩ (.condF rfl (.skip (.code (.seq (.seq (.keep [(18, _), (5, _), (2, _)] ⟨rfl, rfl, rfl, trivial⟩ ?_))))))))
      obtain ⟨ba, aa, ca, rfl, hsh, hWA, hQne⟩ := WrA.ofO (OwnO.ext0 G70 (by repeat (first | exact Ext.refl _ | assumption | refine Ext.trans (by assumption) ?_)) : OwnO tActO Q70 _ w137 v70 af.1 B70) (fun k hk => (hQ70 k hk).2)
      have hlims : ∀ j (hj : j < af.1.length), af.1[j].put.data.length < Lim := fun j hj => acts_lim R76 hj
      have hll := Sl.lim R76
      simp only [Lim] at hll
      have B5f : Blk w137 w36.heap.size _ _ := B5.ext (S := fun _ => False) (by repeat (first | exact Ext.refl _ | assumption | refine Ext.trans (by assumption) ?_)) (fun x => x)
      have B2f : Blk w137 w.heap.size _ _ := B2.ext (S := fun _ => False) (by repeat (first | exact Ext.refl _ | assumption | refine Ext.trans (by assumption) ?_)) (fun x => x)
      have R36f : tDisk.rep _ w137 _ d := tDisk.ext0 R36 (by repeat (first | exact Ext.refl _ | assumption | refine Ext.trans (by assumption) ?_))
      have R0f : tDisk.rep _ w137 _ d := tDisk.ext0 R0 (by repeat (first | exact Ext.refl _ | assumption | refine Ext.trans (by assumption) ?_))
      have Zf : Ext (fun _ => False) w w137 := (by repeat (first | exact Ext.refl _ | assumption | refine Ext.trans (by assumption) ?_))
      have hn5 : ¬ Q70 w36.heap.size := fun hq => by have := (hQ70 _ hq).1; omega
      have hn2 : ¬ Q70 w.heap.size := fun hq => by have := (hQ70 _ hq).1; omega
      have hr36 : ∀ k, k < w36.heap.size → k < w137.heap.size → ¬ Q70 k := fun k hk _ hq => by have := (hQ70 _ hq).1; omega
      have hr0 : ∀ k, k < w.heap.size → k < w137.heap.size → ¬ Q70 k := fun k hk _ hq => by have := (hQ70 _ hq).1; omega
      have hqw : ∀ k, Q70 k → k < w137.heap.size → w.heap.size ≤ k := fun k hq _ => by have := (hQ70 _ hq).1; omega
      refine .region ?_
      refine .p rfl rfl (.as rfl) ?_
      refine .nil (.code (.block ?_))
      refine .loop (S := Nat × World) (fun s => [(2, .pointer (some ⟨w.heap.size, 0, none⟩)), (5, .pointer (some ⟨w36.heap.size, 0, none⟩)), (18, .slice aa af.1.length ca), (26, i64 s.1)]) (fun s => s.2) (fun s => s.1 ≤ af.1.length ∧ WrA s.2 ba Q70 af.1 ∧ Ext Q70 w137 s.2) (fun s => af.1.length - s.1) (0, w137) ⟨rfl, rfl, rfl, rfl, trivial⟩ rfl ⟨Nat.zero_le _, hWA, .refl _⟩ ?_
      rintro ⟨i, wi⟩ J2 ⟨hi2, hWdi, hXi⟩ again
      simp only at hi2 hWdi hXi
      change G _ [(2, .pointer (some ⟨w.heap.size, 0, none⟩)), (5, .pointer (some ⟨w36.heap.size, 0, none⟩)), (18, .slice aa af.1.length ca), (26, i64 i)] _ _ wi
      refine .seq (.seq (.region ?_))
      refine .p rfl rfl (.mv rfl) ?_
      refine .p rfl rfl (.mv rfl) ?_
      refine .p rfl rfl (.len rfl rfl) ?_
      refine .p rfl rfl (.lt rfl rfl) ?_
      refine .nil (.code (.keep [(143, _), (2, _), (5, _), (18, _), (26, _)] ⟨rfl, rfl, rfl, rfl, rfl, trivial⟩ ?_))
      refine .condD rfl (fun c143 => ?_) (fun c143 => ?_)
      · have hi : i < af.1.length := by omega
        obtain rfl : aa = some ⟨ba, 0, none⟩ := hsh.resolve_left (fun e => by rw [e] at hi; exact absurd hi (Nat.not_lt_zero _))
        refine .skip (.code (.seq (.block (.seq (.keep [(2, _), (5, _), (18, _), (26, _)] ⟨rfl, rfl, rfl, rfl, trivial⟩ (.region ?_))))))
        refine .p rfl rfl (.as rfl) ?_
        refine .nil (.code (.block ?_))
        refine .loop (S := Nat × World) (fun s => [(2, .pointer (some ⟨w.heap.size, 0, none⟩)), (5, .pointer (some ⟨w36.heap.size, 0, none⟩)), (18, .slice (some ⟨ba, 0, none⟩) af.1.length ca), (26, i64 i), (27, i64 s.1)]) (fun s => s.2) (fun s => s.1 ≤ af.1[i].put.data.length ∧ WrA s.2 ba Q70 af.1 ∧ Ext Q70 w137 s.2) (fun s => af.1[i].put.data.length - s.1) (0, wi) ⟨rfl, rfl, rfl, rfl, rfl, trivial⟩ rfl ⟨Nat.zero_le _, hWdi, hXi⟩ ?_
        rintro ⟨k, wk⟩ J3 ⟨hk', hWdk, hXk⟩ again2
        simp only at hk' hWdk hXk
        obtain ⟨ad, cd, hce, hwr⟩ := hWdk.data hi
        change G _ [(2, .pointer (some ⟨w.heap.size, 0, none⟩)), (5, .pointer (some ⟨w36.heap.size, 0, none⟩)), (18, .slice (some ⟨ba, 0, none⟩) af.1.length ca), (26, i64 i), (27, i64 k)] _ _ wk
        refine .seq (.seq (.region ?_))
        refine .p rfl rfl (.mv rfl) ?_
        refine .p rfl rfl (.mv rfl) ?_
        refine .p rfl rfl (.mv rfl) ?_
        refine .p rfl rfl (.cast (.indexAddr (s := 3) rfl rfl rfl rfl (by omega)) (show _ = Value.pointer (some ⟨ba, i * 3, none⟩) by simp)) ?_
        refine .p rfl rfl (.fieldAddr rfl rfl rfl rfl) ?_
        refine .p rfl rfl (.fieldAddr rfl rfl rfl rfl) ?_
        refine .p rfl rfl (.load rfl rfl rfl hce) ?_
        refine .p rfl rfl (.len rfl rfl) ?_
        refine .p rfl rfl (.lt rfl rfl) ?_
        refine .nil (.code (.keep [(154, _), (2, _), (5, _), (18, _), (26, _), (27, _)] ⟨rfl, rfl, rfl, rfl, rfl, rfl, trivial⟩ ?_))
        refine .condD rfl (fun c154 => ?_) (fun c154 => ?_)
        · obtain ⟨bb, ds, rfl, hQb, hBb, hkl⟩ := hwr.blk (k := k) (by omega)
          have hlk := hlims i hi
          simp only [Lim] at hlk
          refine .skip (.code (.seq (.block (.keep [(2, _), (5, _), (18, _), (26, _), (27, _)] ⟨rfl, rfl, rfl, rfl, rfl, trivial⟩ (.region ?_)))))
          refine .p rfl rfl (.mv rfl) ?_
          refine .p rfl rfl (.mv rfl) ?_
          refine .p rfl rfl (.cast (.indexAddr (s := 3) rfl rfl rfl rfl (by omega)) (show _ = Value.pointer (some ⟨ba, i * 3, none⟩) by simp)) ?_
          refine .p rfl rfl (.fieldAddr rfl rfl rfl rfl) ?_
          refine .p rfl rfl (.fieldAddr rfl rfl rfl rfl) ?_
          refine .p rfl rfl (.load rfl rfl rfl hce) ?_
          refine .p rfl rfl (.mv rfl) ?_
          refine .p rfl rfl (.cast (.indexAddr1 rfl rfl rfl rfl (by omega)) (show _ = Value.pointer (some ⟨bb, k, none⟩) by simp)) ?_
          refine .s rfl (.store rfl rfl rfl rfl rfl hBb hkl) ?_
          intro w4 P4
          have hWd4 := hWdk.putD hBb P4 (fun he => (hQne bb hQb).elim (fun h => h he.symm) (fun h => by rw [h] at hi; exact absurd hi (Nat.not_lt_zero _)))
          refine .nil (.blk (.code (.keep [(2, _), (5, _), (18, _), (26, _), (27, _)] ⟨rfl, rfl, rfl, rfl, rfl, trivial⟩ (.region ?_))))
          refine .p rfl rfl (.mv rfl) ?_
          refine .p rfl rfl (.add rfl rfl (by omega)) ?_
          refine .p rfl rfl (.as rfl) ?_
          refine .nil ?_
          exact (again2 (k + 1, w4) ⟨by show k + 1 ≤ _; omega, hWd4, hXk.trans (P4.ext.mono (by rintro j _ rfl; exact hQb))⟩ (by show _ - (k + 1) < _ - k; omega)).of ⟨rfl, rfl, rfl, rfl, rfl, trivial⟩
        · refine .exit rfl (.blk (.code (.keep [(2, _), (5, _), (18, _), (26, _)] ⟨rfl, rfl, rfl, rfl, trivial⟩ (.region ?_))))
          refine .p rfl rfl (.mv rfl) ?_
          refine .p rfl rfl (.add rfl rfl (by omega)) ?_
          refine .p rfl rfl (.as rfl) ?_
          refine .nil ?_
          exact (again (i + 1, wk) ⟨by show i + 1 ≤ _; omega, hWdk, hXk⟩ (by show _ - (i + 1) < _ - i; omega)).of ⟨rfl, rfl, rfl, rfl, trivial⟩
      · refine .exit rfl (.code (.seq (.keep [(2, _), (5, _)] ⟨rfl, rfl, trivial⟩ (.region ?_))))
        refine .p rfl rfl (.loadA (n := 3) rfl rfl rfl rfl rfl (B5f.ext hXi hn5).cells) ?_
        refine .p rfl rfl (.loadA (n := 3) rfl rfl rfl rfl rfl (B2f.ext hXi hn2).cells) ?_
        refine .call (first := []) (captured := []) rfl rfl rfl rfl (refSame_fn (allOf (tDisk.ext R36f hXi hr36)) (allOf (tDisk.ext R0f hXi hr0))) ?_
        rintro _ w167 ⟨rfl, X167⟩
        refine .p rfl rfl (.as rfl) ?_
        refine .nil (.code ?_)
        refine .ret _ rfl ?_
        exact ⟨by rw [decide_eq_true rfl]; rfl, (Zf.then hXi hqw).trans X167⟩
end Go.Proofs.Ytapdacjpmmjlhaa
