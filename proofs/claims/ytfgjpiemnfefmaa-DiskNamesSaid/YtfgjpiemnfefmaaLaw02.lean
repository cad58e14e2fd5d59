/-
  The statements of chapter 02: what they go through; disks written over; sectors of one byte.
-/
import Derived.Test.YtfgjpiemnfefmaaRef02c
set_option linter.unusedVariables false
set_option linter.unusedSimpArgs false
set_option maxRecDepth 20000
namespace Go.Proofs.Ytfgjpiemnfefmaa
open Go disk
namespace disk
def largeP (d : Disk) : Prop := (40000 < d.data.length ∧ 0 < d.count ∧ d.count ≤ 4096) ∨ 600000 < d.data.length ∨ (300 < d.waits.length ∧ d.waits.length < 4090) ∨ 4200 < d.waits.length
instance (d : Disk) : Decidable (largeP d) := by unfold largeP; infer_instance
def largeB (d : Disk) : Bool := decide (largeP d)
theorem large_not {d : Disk} (h : largeB d = false) : d.data.length ≤ 600000 ∧ d.waits.length ≤ 4200 := by
  have h := of_decide_eq_false h
  unfold largeP at h
  omega
end disk
theorem Blk.inj {w : World} {b : Nat} {E E' : TypeId} {cs cs' : List Value} (h : Blk w b E cs) (h' : Blk w b E' cs') : cs = cs' := by
  obtain ⟨f1, h1, _⟩ := h.heap
  obtain ⟨f2, h2, _⟩ := h'.heap
  rw [h1] at h2
  simp only [Option.some.injEq, Obj.cells.injEq] at h2
  exact List.toArray_inj h2.1
theorem flat_at {n : Nat} {us : List Value} {j t : Nat} {u : Value} (hs : ∀ x ∈ us, x.cells.size = n) (hj : us[j]? = some u) (ht : t < n) : (flat us)[j * n + t]? = u.cells.toList[t]? := by
  have hlt : j < us.length := (List.getElem?_eq_some_iff.1 hj).1
  have hu : us[j] = u := by rw [List.getElem?_eq_getElem hlt] at hj; simpa using hj
  have h1 : (flat us).drop (j * n) = u.cells.toList ++ flat (us.drop (j + 1)) := by
    rw [← flat_drop j hs, List.drop_eq_getElem_cons hlt, flat_cons, hu]
  have h2 : u.cells.toList.length = n := by rw [Array.length_toList]; exact hs u (hu ▸ List.getElem_mem hlt)
  rw [← List.getElem?_drop, h1, List.getElem?_append_left (by omega)]
/-- n bytes that may be written, nil or in a block that Q allows -/
def WrB (W : World) (Q : Nat → Prop) (v : Value) (n : Nat) : Prop := (n = 0 ∧ v = .slice none 0 0) ∨ ∃ b c ds, v = .slice (some ⟨b, 0, none⟩) n c ∧ Q b ∧ Blk W b 5 ds ∧ n ≤ ds.length
section
variable {W W2 : World} {Q : Nat → Prop} {v u : Value} {n k b bw : Nat} {ds : List Value} {S : Nat → Prop} {xs : List disk.Put}
theorem WrB.put (h : WrB W Q v n) (hB : Blk W b 5 ds) (P : Go.Proofs.Ytfgjpiemnfefmaa.Put W W2 b 5 (ds.set k u)) : WrB W2 Q v n := by
  rcases h with h | ⟨b1, c, ds1, rfl, hq, hB1, hn⟩
  · exact .inl h
  · by_cases e : b1 = b
    · subst e
      have := hB1.inj hB
      subst this
      exact .inr ⟨b1, c, _, rfl, hq, P.blk, by simpa using hn⟩
    · exact .inr ⟨b1, c, ds1, rfl, hq, hB1.ext P.ext e, hn⟩
theorem WrB.ext (h : WrB W Q v n) (hx : Ext S W W2) (hs : ∀ k, Q k → ¬ S k) : WrB W2 Q v n := by
  rcases h with h | ⟨b1, c, ds1, rfl, hq, hB1, hn⟩
  · exact .inl h
  · exact .inr ⟨b1, c, ds1, rfl, hq, hB1.ext hx (hs b1 hq), hn⟩
theorem WrB.val (h : WrB W Q v n) : ∃ a c, v = .slice a n c := by
  rcases h with ⟨rfl, rfl⟩ | ⟨b1, c, ds1, rfl, _⟩
  · exact ⟨none, 0, rfl⟩
  · exact ⟨_, c, rfl⟩
theorem WrB.blk {a : Option Addr} {c : Nat} (h : WrB W Q (.slice a n c) n) (hk : k < n) : ∃ b ds, a = some ⟨b, 0, none⟩ ∧ Q b ∧ Blk W b 5 ds ∧ k < ds.length := by
  rcases h with ⟨rfl, _⟩ | ⟨b1, c, ds1, e, hq, hB1, hn⟩
  · omega
  · cases e
    exact ⟨b1, ds1, rfl, hq, hB1, by omega⟩
theorem WrB.of {P : Nat → Prop} {l : Bs} (h : Own tByte P 5 W v l b) (hb : b < W.heap.size → Q b) : WrB W Q v l.length := by
  rcases h.pick 0 with ⟨h1, h2⟩ | h1
  · by_cases hne : l = []
    · subst hne
      obtain ⟨hl, ⟨_, rfl⟩ | ⟨cap, us, sp, rfl, hc, he, hB, hn⟩⟩ := h1
      · exact .inl ⟨rfl, rfl⟩
      · exact .inr ⟨b, cap, _, rfl, hb h2, hB, Nat.zero_le _⟩
    · obtain ⟨cap, sp, rfl, hc, hB, hn⟩ := h1.blk hne
      exact .inr ⟨b, cap, _, rfl, hb h2, hB, by simp⟩
  · obtain ⟨hl, ⟨rfl, rfl⟩ | ⟨cap, us, sp, rfl, hc, he, hB, hn⟩⟩ := h
    · exact .inl ⟨rfl, rfl⟩
    · refine .inr ⟨b, cap, _, rfl, hb hB.lt, hB, ?_⟩
      have := hc
      rw [hn]
      show l.length ≤ cap * 1
      omega
theorem WrB.mono {Q' : Nat → Prop} (h : WrB W Q v n) (hq : ∀ k, Q k → Q' k) : WrB W Q' v n := by
  rcases h with h | ⟨b1, c, ds1, rfl, h1, hB1, hn⟩
  · exact .inl h
  · exact .inr ⟨b1, c, ds1, rfl, hq _ h1, hB1, hn⟩
/-- writes whose bytes may be written -/
def WrD (W : World) (bw : Nat) (Q : Nat → Prop) (xs : List disk.Put) : Prop := xs = [] ∨ ∃ cs, Blk W bw 30 cs ∧ ∀ j (h : j < xs.length), j * 2 + 1 < cs.length ∧ ∃ v, cs[j * 2 + 1]? = some v ∧ WrB W Q v xs[j].data.length
theorem WrD.data (h : WrD W bw Q xs) {i : Nat} (hi : i < xs.length) : ∃ a c, W.cell? ⟨bw, i * 2 + 1, none⟩ = some (.slice a xs[i].data.length c) ∧ WrB W Q (.slice a xs[i].data.length c) xs[i].data.length := by
  rcases h with rfl | ⟨cs, hB, h⟩
  · exact absurd hi (Nat.not_lt_zero _)
  · obtain ⟨h1, v, h2, h3⟩ := h i hi
    obtain ⟨a, c, rfl⟩ := h3.val
    exact ⟨a, c, by rw [hB.cell]; exact h2, h3⟩
theorem WrD.putD (h : WrD W bw Q xs) (hB : Blk W b 5 ds) (P : Go.Proofs.Ytfgjpiemnfefmaa.Put W W2 b 5 (ds.set k u)) (hne : bw ≠ b) : WrD W2 bw Q xs := by
  rcases h with h | ⟨cs, hC, h⟩
  · exact .inl h
  · refine .inr ⟨cs, hC.ext P.ext hne, fun j hj => ?_⟩
    obtain ⟨h1, v, h2, h3⟩ := h j hj
    exact ⟨h1, v, h2, h3.put hB P⟩
theorem WrD.putW (h : WrD W bw Q xs) {i : Nat} (hi : i < xs.length) (hq : ∀ k, Q k → k ≠ bw) : ∃ cs, Blk W bw 30 cs ∧ i * 2 < cs.length ∧ ∀ W2 u, Go.Proofs.Ytfgjpiemnfefmaa.Put W W2 bw 30 (cs.set (i * 2) u) → WrD W2 bw Q xs := by
  rcases h with rfl | ⟨cs, hC, h⟩
  · exact absurd hi (Nat.not_lt_zero _)
  · refine ⟨cs, hC, by have := (h i hi).1; omega, fun W2 u P => .inr ⟨_, P.blk, fun j hj => ?_⟩⟩
    obtain ⟨h1, v, h2, h3⟩ := h j hj
    exact ⟨by simpa using h1, v, by rw [List.getElem?_set_ne (by omega)]; exact h2, h3.ext P.ext hq⟩
theorem WrD.of (h : Own tPutO Q 30 W v xs b) : WrD W b Q xs := by
  obtain ⟨hl, ⟨rfl, rfl⟩ | ⟨cap, us, sp, rfl, hc, he, hB, hn⟩⟩ := h
  · exact .inl rfl
  · refine .inr ⟨_, hB, fun j hj => ?_⟩
    have hsz := he.mem (n := 2) (fun u x h => tPutO.sz h)
    obtain ⟨u, hu, hr⟩ := he.get (List.getElem?_eq_getElem hj)
    obtain ⟨ud, rfl, hud, _⟩ := tPutO.val hr
    have hlt : j < us.length := (List.getElem?_eq_some_iff.1 hu).1
    have hfl := flat_length hsz
    refine ⟨by rw [List.length_append, hfl]; omega, ud, ?_, ?_⟩
    · rw [List.getElem?_append_left (by rw [hfl]; omega), flat_at hsz hu (by omega)]
      rfl
    · rcases hud with ⟨h1, rfl⟩ | ⟨b1, h1, h2, h3⟩
      · exact .inl ⟨by rw [h1]; rfl, rfl⟩
      · exact WrB.of h3 (fun _ => h1)
end
theorem large_fn {w : World} {v : Value} {d : Disk} (h : tDisk.rep All w v d) : Fn Try.prog 10 [v] w (fun r w2 => r = .bool (largeB d) ∧ Ext (fun _ => False) w w2) := by
  obtain ⟨u, u', rfl, hd, hw, hc1, hc2⟩ := tDisk.val h
  obtain ⟨a, cap, rfl, hcap⟩ := Sl.val hd
  obtain ⟨aw, capw, rfl, hcapw⟩ := Sl.val hw
  refine Fn.enter (fun w => Try.call10 _ w) Try.func10 rfl ?_
  refine .seq (.region ?_)
  refine .v rfl rfl (.box rfl) ?_
  rintro _ w1 ⟨rfl, N1⟩
  have B1 := N1.blk
  refine .p rfl rfl (.as rfl) ?_
  refine .nil (.code (.seq (.keep [(1, _)] ⟨rfl, trivial⟩ (.region ?_))))
  refine .p rfl rfl (.fieldAddr rfl rfl rfl rfl) ?_
  refine .p rfl rfl (.load rfl rfl rfl (B1.cell 1)) ?_
  refine .p rfl rfl (.len rfl rfl) ?_
  refine .p rfl rfl (.gt rfl rfl) ?_
  refine .p rfl rfl (.mv rfl) ?_
  refine .caseD 7 rfl (fun c7 => ?_) (fun c7 => ?_)
  · refine .p rfl rfl (.fieldAddr rfl rfl rfl rfl) ?_
    refine .p rfl rfl (.load rfl rfl rfl (B1.cell 0)) ?_
    refine .p rfl rfl (.gt rfl rfl) ?_
    refine .p rfl rfl (.pickT rfl rfl) ?_
    refine .p rfl rfl (.mv rfl) ?_
    refine .caseD 12 rfl (fun c12 => ?_) (fun c12 => ?_)
    · refine .p rfl rfl (.fieldAddr rfl rfl rfl rfl) ?_
      refine .p rfl rfl (.load rfl rfl rfl (B1.cell 0)) ?_
      refine .p rfl rfl (.le rfl rfl) ?_
      refine .p rfl rfl (.pickT rfl rfl) ?_
      refine .p rfl rfl (.mv rfl) ?_
      refine .caseD 17 rfl (fun c17 => ?_) (fun c17 => ?_)
      · refine .skip rfl rfl ?_
        refine .skip rfl rfl ?_
        refine .skip rfl rfl ?_
        refine .skip rfl rfl ?_
        refine .p rfl rfl (.pickT rfl rfl) ?_
        refine .p rfl rfl (.mv rfl) ?_
        refine .skip rfl rfl ?_
        refine .skip rfl rfl ?_
        refine .skip rfl rfl ?_
        refine .skip rfl rfl ?_
        refine .skip rfl rfl ?_
        refine .skip rfl rfl ?_
        refine .skip rfl rfl ?_
        refine .skip rfl rfl ?_
        refine .skip rfl rfl ?_
        refine .skip rfl rfl ?_
        refine .p rfl rfl (.pickT rfl rfl) ?_
        refine .p rfl rfl (.mv rfl) ?_
        refine .skip rfl rfl ?_
        refine .skip rfl rfl ?_
        refine .skip rfl rfl ?_
        refine .skip rfl rfl ?_
        refine .p rfl rfl (.pickT rfl rfl) ?_
        refine .p rfl rfl (.as rfl) ?_
        refine .nil (.code ?_)
        refine .ret _ rfl ?_
        refine ⟨?_, N1.ext⟩
        first
          | (rw [show largeB d = true from decide_eq_true (by unfold largeP; omega)]; rfl)
          | (rw [show largeB d = false from decide_eq_false (by unfold largeP; omega)]; rfl)
          | exact congrArg Value.bool (decide_eq_decide.2 ⟨fun hh => by unfold largeP; omega, fun hh => by unfold largeP at hh; omega⟩)
      · refine .p rfl rfl (.fieldAddr rfl rfl rfl rfl) ?_
        refine .p rfl rfl (.load rfl rfl rfl (B1.cell 1)) ?_
        refine .p rfl rfl (.len rfl rfl) ?_
        refine .p rfl rfl (.gt rfl rfl) ?_
        refine .p rfl rfl (.pickF rfl rfl) ?_
        refine .p rfl rfl (.mv rfl) ?_
        refine .caseD 23 rfl (fun c23 => ?_) (fun c23 => ?_)
        · refine .skip rfl rfl ?_
          refine .skip rfl rfl ?_
          refine .skip rfl rfl ?_
          refine .skip rfl rfl ?_
          refine .skip rfl rfl ?_
          refine .skip rfl rfl ?_
          refine .skip rfl rfl ?_
          refine .skip rfl rfl ?_
          refine .skip rfl rfl ?_
          refine .skip rfl rfl ?_
          refine .p rfl rfl (.pickT rfl rfl) ?_
          refine .p rfl rfl (.mv rfl) ?_
          refine .skip rfl rfl ?_
          refine .skip rfl rfl ?_
          refine .skip rfl rfl ?_
          refine .skip rfl rfl ?_
          refine .p rfl rfl (.pickT rfl rfl) ?_
          refine .p rfl rfl (.as rfl) ?_
          refine .nil (.code ?_)
          refine .ret _ rfl ?_
          refine ⟨?_, N1.ext⟩
          first
            | (rw [show largeB d = true from decide_eq_true (by unfold largeP; omega)]; rfl)
            | (rw [show largeB d = false from decide_eq_false (by unfold largeP; omega)]; rfl)
            | exact congrArg Value.bool (decide_eq_decide.2 ⟨fun hh => by unfold largeP; omega, fun hh => by unfold largeP at hh; omega⟩)
        · refine .p rfl rfl (.fieldAddr rfl rfl rfl rfl) ?_
          refine .p rfl rfl (.load rfl rfl rfl (B1.cell 2)) ?_
          refine .p rfl rfl (.len rfl rfl) ?_
          refine .p rfl rfl (.gt rfl rfl) ?_
          refine .p rfl rfl (.mv rfl) ?_
          refine .caseD 28 rfl (fun c28 => ?_) (fun c28 => ?_)
          · refine .p rfl rfl (.fieldAddr rfl rfl rfl rfl) ?_
            refine .p rfl rfl (.load rfl rfl rfl (B1.cell 2)) ?_
            refine .p rfl rfl (.len rfl rfl) ?_
            refine .p rfl rfl (.lt rfl rfl) ?_
            refine .p rfl rfl (.pickT rfl rfl) ?_
            refine .p rfl rfl (.pickF rfl rfl) ?_
            refine .p rfl rfl (.mv rfl) ?_
            refine .caseD 35 rfl (fun c35 => ?_) (fun c35 => ?_)
            · refine .skip rfl rfl ?_
              refine .skip rfl rfl ?_
              refine .skip rfl rfl ?_
              refine .skip rfl rfl ?_
              refine .p rfl rfl (.pickT rfl rfl) ?_
              refine .p rfl rfl (.as rfl) ?_
              refine .nil (.code ?_)
              refine .ret _ rfl ?_
              refine ⟨?_, N1.ext⟩
              first
                | (rw [show largeB d = true from decide_eq_true (by unfold largeP; omega)]; rfl)
                | (rw [show largeB d = false from decide_eq_false (by unfold largeP; omega)]; rfl)
                | exact congrArg Value.bool (decide_eq_decide.2 ⟨fun hh => by unfold largeP; omega, fun hh => by unfold largeP at hh; omega⟩)
            · refine .p rfl rfl (.fieldAddr rfl rfl rfl rfl) ?_
              refine .p rfl rfl (.load rfl rfl rfl (B1.cell 2)) ?_
              refine .p rfl rfl (.len rfl rfl) ?_
              refine .p rfl rfl (.gt rfl rfl) ?_
              refine .p rfl rfl (.pickF rfl rfl) ?_
              refine .p rfl rfl (.as rfl) ?_
              refine .nil (.code ?_)
              refine .ret _ rfl ?_
              refine ⟨?_, N1.ext⟩
              first
                | (rw [show largeB d = true from decide_eq_true (by unfold largeP; omega)]; rfl)
                | (rw [show largeB d = false from decide_eq_false (by unfold largeP; omega)]; rfl)
                | exact congrArg Value.bool (decide_eq_decide.2 ⟨fun hh => by unfold largeP; omega, fun hh => by unfold largeP at hh; omega⟩)
          · refine .skip rfl rfl ?_
            refine .skip rfl rfl ?_
            refine .skip rfl rfl ?_
            refine .skip rfl rfl ?_
            refine .p rfl rfl (.pickF rfl rfl) ?_
            refine .p rfl rfl (.pickF rfl rfl) ?_
            refine .p rfl rfl (.mv rfl) ?_
            refine .p rfl rfl (.fieldAddr rfl rfl rfl rfl) ?_
            refine .p rfl rfl (.load rfl rfl rfl (B1.cell 2)) ?_
            refine .p rfl rfl (.len rfl rfl) ?_
            refine .p rfl rfl (.gt rfl rfl) ?_
            refine .p rfl rfl (.pickF rfl rfl) ?_
            refine .p rfl rfl (.as rfl) ?_
            refine .nil (.code ?_)
            refine .ret _ rfl ?_
            refine ⟨?_, N1.ext⟩
            first
              | (rw [show largeB d = true from decide_eq_true (by unfold largeP; omega)]; rfl)
              | (rw [show largeB d = false from decide_eq_false (by unfold largeP; omega)]; rfl)
              | exact congrArg Value.bool (decide_eq_decide.2 ⟨fun hh => by unfold largeP; omega, fun hh => by unfold largeP at hh; omega⟩)
    · refine .skip rfl rfl ?_
      refine .skip rfl rfl ?_
      refine .skip rfl rfl ?_
      refine .p rfl rfl (.pickF rfl rfl) ?_
      refine .p rfl rfl (.mv rfl) ?_
      refine .p rfl rfl (.fieldAddr rfl rfl rfl rfl) ?_
      refine .p rfl rfl (.load rfl rfl rfl (B1.cell 1)) ?_
      refine .p rfl rfl (.len rfl rfl) ?_
      refine .p rfl rfl (.gt rfl rfl) ?_
      refine .p rfl rfl (.pickF rfl rfl) ?_
      refine .p rfl rfl (.mv rfl) ?_
      refine .caseD 23 rfl (fun c23 => ?_) (fun c23 => ?_)
      · refine .skip rfl rfl ?_
        refine .skip rfl rfl ?_
        refine .skip rfl rfl ?_
        refine .skip rfl rfl ?_
        refine .skip rfl rfl ?_
        refine .skip rfl rfl ?_
        refine .skip rfl rfl ?_
        refine .skip rfl rfl ?_
        refine .skip rfl rfl ?_
        refine .skip rfl rfl ?_
        refine .p rfl rfl (.pickT rfl rfl) ?_
        refine .p rfl rfl (.mv rfl) ?_
        refine .skip rfl rfl ?_
        refine .skip rfl rfl ?_
        refine .skip rfl rfl ?_
        refine .skip rfl rfl ?_
        refine .p rfl rfl (.pickT rfl rfl) ?_
        refine .p rfl rfl (.as rfl) ?_
        refine .nil (.code ?_)
        refine .ret _ rfl ?_
        refine ⟨?_, N1.ext⟩
        first
          | (rw [show largeB d = true from decide_eq_true (by unfold largeP; omega)]; rfl)
          | (rw [show largeB d = false from decide_eq_false (by unfold largeP; omega)]; rfl)
          | exact congrArg Value.bool (decide_eq_decide.2 ⟨fun hh => by unfold largeP; omega, fun hh => by unfold largeP at hh; omega⟩)
      · refine .p rfl rfl (.fieldAddr rfl rfl rfl rfl) ?_
        refine .p rfl rfl (.load rfl rfl rfl (B1.cell 2)) ?_
        refine .p rfl rfl (.len rfl rfl) ?_
        refine .p rfl rfl (.gt rfl rfl) ?_
        refine .p rfl rfl (.mv rfl) ?_
        refine .caseD 28 rfl (fun c28 => ?_) (fun c28 => ?_)
        · refine .p rfl rfl (.fieldAddr rfl rfl rfl rfl) ?_
          refine .p rfl rfl (.load rfl rfl rfl (B1.cell 2)) ?_
          refine .p rfl rfl (.len rfl rfl) ?_
          refine .p rfl rfl (.lt rfl rfl) ?_
          refine .p rfl rfl (.pickT rfl rfl) ?_
          refine .p rfl rfl (.pickF rfl rfl) ?_
          refine .p rfl rfl (.mv rfl) ?_
          refine .caseD 35 rfl (fun c35 => ?_) (fun c35 => ?_)
          · refine .skip rfl rfl ?_
            refine .skip rfl rfl ?_
            refine .skip rfl rfl ?_
            refine .skip rfl rfl ?_
            refine .p rfl rfl (.pickT rfl rfl) ?_
            refine .p rfl rfl (.as rfl) ?_
            refine .nil (.code ?_)
            refine .ret _ rfl ?_
            refine ⟨?_, N1.ext⟩
            first
              | (rw [show largeB d = true from decide_eq_true (by unfold largeP; omega)]; rfl)
              | (rw [show largeB d = false from decide_eq_false (by unfold largeP; omega)]; rfl)
              | exact congrArg Value.bool (decide_eq_decide.2 ⟨fun hh => by unfold largeP; omega, fun hh => by unfold largeP at hh; omega⟩)
          · refine .p rfl rfl (.fieldAddr rfl rfl rfl rfl) ?_
            refine .p rfl rfl (.load rfl rfl rfl (B1.cell 2)) ?_
            refine .p rfl rfl (.len rfl rfl) ?_
            refine .p rfl rfl (.gt rfl rfl) ?_
            refine .p rfl rfl (.pickF rfl rfl) ?_
            refine .p rfl rfl (.as rfl) ?_
            refine .nil (.code ?_)
            refine .ret _ rfl ?_
            refine ⟨?_, N1.ext⟩
            first
              | (rw [show largeB d = true from decide_eq_true (by unfold largeP; omega)]; rfl)
              | (rw [show largeB d = false from decide_eq_false (by unfold largeP; omega)]; rfl)
              | exact congrArg Value.bool (decide_eq_decide.2 ⟨fun hh => by unfold largeP; omega, fun hh => by unfold largeP at hh; omega⟩)
        · refine .skip rfl rfl ?_
          refine .skip rfl rfl ?_
          refine .skip rfl rfl ?_
          refine .skip rfl rfl ?_
          refine .p rfl rfl (.pickF rfl rfl) ?_
          refine .p rfl rfl (.pickF rfl rfl) ?_
          refine .p rfl rfl (.mv rfl) ?_
          refine .p rfl rfl (.fieldAddr rfl rfl rfl rfl) ?_
          refine .p rfl rfl (.load rfl rfl rfl (B1.cell 2)) ?_
          refine .p rfl rfl (.len rfl rfl) ?_
          refine .p rfl rfl (.gt rfl rfl) ?_
          refine .p rfl rfl (.pickF rfl rfl) ?_
          refine .p rfl rfl (.as rfl) ?_
          refine .nil (.code ?_)
          refine .ret _ rfl ?_
          refine ⟨?_, N1.ext⟩
          first
            | (rw [show largeB d = true from decide_eq_true (by unfold largeP; omega)]; rfl)
            | (rw [show largeB d = false from decide_eq_false (by unfold largeP; omega)]; rfl)
            | exact congrArg Value.bool (decide_eq_decide.2 ⟨fun hh => by unfold largeP; omega, fun hh => by unfold largeP at hh; omega⟩)
  · refine .skip rfl rfl ?_
    refine .skip rfl rfl ?_
    refine .skip rfl rfl ?_
    refine .p rfl rfl (.pickF rfl rfl) ?_
    refine .p rfl rfl (.mv rfl) ?_
    refine .skip rfl rfl ?_
    refine .skip rfl rfl ?_
    refine .skip rfl rfl ?_
    refine .p rfl rfl (.pickF rfl rfl) ?_
    refine .p rfl rfl (.mv rfl) ?_
    refine .p rfl rfl (.fieldAddr rfl rfl rfl rfl) ?_
    refine .p rfl rfl (.load rfl rfl rfl (B1.cell 1)) ?_
    refine .p rfl rfl (.len rfl rfl) ?_
    refine .p rfl rfl (.gt rfl rfl) ?_
    refine .p rfl rfl (.pickF rfl rfl) ?_
    refine .p rfl rfl (.mv rfl) ?_
    refine .caseD 23 rfl (fun c23 => ?_) (fun c23 => ?_)
    · refine .skip rfl rfl ?_
      refine .skip rfl rfl ?_
      refine .skip rfl rfl ?_
      refine .skip rfl rfl ?_
      refine .skip rfl rfl ?_
      refine .skip rfl rfl ?_
      refine .skip rfl rfl ?_
      refine .skip rfl rfl ?_
      refine .skip rfl rfl ?_
      refine .skip rfl rfl ?_
      refine .p rfl rfl (.pickT rfl rfl) ?_
      refine .p rfl rfl (.mv rfl) ?_
      refine .skip rfl rfl ?_
      refine .skip rfl rfl ?_
      refine .skip rfl rfl ?_
      refine .skip rfl rfl ?_
      refine .p rfl rfl (.pickT rfl rfl) ?_
      refine .p rfl rfl (.as rfl) ?_
      refine .nil (.code ?_)
      refine .ret _ rfl ?_
      refine ⟨?_, N1.ext⟩
      first
        | (rw [show largeB d = true from decide_eq_true (by unfold largeP; omega)]; rfl)
        | (rw [show largeB d = false from decide_eq_false (by unfold largeP; omega)]; rfl)
        | exact congrArg Value.bool (decide_eq_decide.2 ⟨fun hh => by unfold largeP; omega, fun hh => by unfold largeP at hh; omega⟩)
    · refine .p rfl rfl (.fieldAddr rfl rfl rfl rfl) ?_
      refine .p rfl rfl (.load rfl rfl rfl (B1.cell 2)) ?_
      refine .p rfl rfl (.len rfl rfl) ?_
      refine .p rfl rfl (.gt rfl rfl) ?_
      refine .p rfl rfl (.mv rfl) ?_
      refine .caseD 28 rfl (fun c28 => ?_) (fun c28 => ?_)
      · refine .p rfl rfl (.fieldAddr rfl rfl rfl rfl) ?_
        refine .p rfl rfl (.load rfl rfl rfl (B1.cell 2)) ?_
        refine .p rfl rfl (.len rfl rfl) ?_
        refine .p rfl rfl (.lt rfl rfl) ?_
        refine .p rfl rfl (.pickT rfl rfl) ?_
        refine .p rfl rfl (.pickF rfl rfl) ?_
        refine .p rfl rfl (.mv rfl) ?_
        refine .caseD 35 rfl (fun c35 => ?_) (fun c35 => ?_)
        · refine .skip rfl rfl ?_
          refine .skip rfl rfl ?_
          refine .skip rfl rfl ?_
          refine .skip rfl rfl ?_
          refine .p rfl rfl (.pickT rfl rfl) ?_
          refine .p rfl rfl (.as rfl) ?_
          refine .nil (.code ?_)
          refine .ret _ rfl ?_
          refine ⟨?_, N1.ext⟩
          first
            | (rw [show largeB d = true from decide_eq_true (by unfold largeP; omega)]; rfl)
            | (rw [show largeB d = false from decide_eq_false (by unfold largeP; omega)]; rfl)
            | exact congrArg Value.bool (decide_eq_decide.2 ⟨fun hh => by unfold largeP; omega, fun hh => by unfold largeP at hh; omega⟩)
        · refine .p rfl rfl (.fieldAddr rfl rfl rfl rfl) ?_
          refine .p rfl rfl (.load rfl rfl rfl (B1.cell 2)) ?_
          refine .p rfl rfl (.len rfl rfl) ?_
          refine .p rfl rfl (.gt rfl rfl) ?_
          refine .p rfl rfl (.pickF rfl rfl) ?_
          refine .p rfl rfl (.as rfl) ?_
          refine .nil (.code ?_)
          refine .ret _ rfl ?_
          refine ⟨?_, N1.ext⟩
          first
            | (rw [show largeB d = true from decide_eq_true (by unfold largeP; omega)]; rfl)
            | (rw [show largeB d = false from decide_eq_false (by unfold largeP; omega)]; rfl)
            | exact congrArg Value.bool (decide_eq_decide.2 ⟨fun hh => by unfold largeP; omega, fun hh => by unfold largeP at hh; omega⟩)
      · refine .skip rfl rfl ?_
        refine .skip rfl rfl ?_
        refine .skip rfl rfl ?_
        refine .skip rfl rfl ?_
        refine .p rfl rfl (.pickF rfl rfl) ?_
        refine .p rfl rfl (.pickF rfl rfl) ?_
        refine .p rfl rfl (.mv rfl) ?_
        refine .p rfl rfl (.fieldAddr rfl rfl rfl rfl) ?_
        refine .p rfl rfl (.load rfl rfl rfl (B1.cell 2)) ?_
        refine .p rfl rfl (.len rfl rfl) ?_
        refine .p rfl rfl (.gt rfl rfl) ?_
        refine .p rfl rfl (.pickF rfl rfl) ?_
        refine .p rfl rfl (.as rfl) ?_
        refine .nil (.code ?_)
        refine .ret _ rfl ?_
        refine ⟨?_, N1.ext⟩
        first
          | (rw [show largeB d = true from decide_eq_true (by unfold largeP; omega)]; rfl)
          | (rw [show largeB d = false from decide_eq_false (by unfold largeP; omega)]; rfl)
          | exact congrArg Value.bool (decide_eq_decide.2 ⟨fun hh => by unfold largeP; omega, fun hh => by unfold largeP at hh; omega⟩)
theorem spoil_fn {w : World} {v : Value} {d : Disk} {P : Nat → Prop} (hD : OwnD w v d P) : Fn Try.prog 20 [v] w (fun r w2 => r = .tuple #[] ∧ Ext (fun k => P k ∧ k < w.heap.size) w w2) := by
  have hlims : ∀ j (hj : j < d.waits.length), d.waits[j].data.length < Lim := fun j hj => by
    obtain ⟨_, _, _, _, hw, _⟩ := tDisk.val hD.rep
    obtain ⟨_, _, _, _, _, _, _, hr⟩ := Sl.at hw (List.getElem?_eq_getElem hj)
    obtain ⟨ud, _, hud, _⟩ := tPut.val hr
    exact Sl.lim hud
  obtain ⟨u, u', bd, bw, Q, rfl, hcr, hO1, hO2, ⟨l1, l2, ne, p1, p2⟩, hq⟩ := hD
  have hO2 := hO2.mono (Q' := fun k => Q k ∧ k < w.heap.size) (fun k a b => ⟨a, b⟩)
  have hlim := hO1.lim
  have hlimw := hO2.lim
  simp only [Lim] at hlim hlimw
  obtain ⟨a1, c1, rfl, hc1⟩ := hO1.val
  obtain ⟨a2, c2, e2, hc2⟩ := hO2.val
  have hsh : d.waits = [] ∨ a2 = some ⟨bw, 0, none⟩ := by
    obtain ⟨_, ⟨h1, _⟩ | ⟨cap, us, sp, h1, _⟩⟩ := hO2
    · exact .inl h1
    · right; rw [e2] at h1; cases h1; rfl
  subst e2
  have hq1 : ∀ k, (Q k ∧ k < w.heap.size) → k ≠ bw := fun k h => (hq k h.1 h.2).2.2
  refine Fn.enter (fun w => Try.call20 _ w) Try.func20 rfl ?_
  refine .seq (.region ?_)
  refine .v rfl rfl (.box rfl) ?_
  rintro _ w1 ⟨rfl, N1⟩
  have z1 := N1.size
  have hWb := WrB.of (Q := (· = bd)) (hO1.ext0 N1.ext) (fun _ => rfl)
  have hWd := WrD.of (hO2.ext0 N1.ext)
  refine .nil (.code (.seq (.seq (.keep [(1, _)] ⟨rfl, trivial⟩ (.region ?_)))))
  refine .p rfl rfl (.as rfl) ?_
  refine .nil (.code (.block ?_))
  refine .loop (S := Nat × World) (fun s => [(1, .pointer (some ⟨w.heap.size, 0, none⟩)), (2, i64 s.1)]) (fun s => s.2) (fun s => s.1 ≤ d.data.length ∧ WrB s.2 (· = bd) (.slice a1 d.data.length c1) d.data.length ∧ Ext (· = bd) w1 s.2) (fun s => d.data.length - s.1) (0, w1) ⟨rfl, rfl, trivial⟩ rfl ⟨Nat.zero_le _, hWb, .refl _⟩ ?_
  rintro ⟨i, wi⟩ J ⟨hi', hWbi, hX⟩ again
  simp only at hi' hWbi hX
  have B1i := N1.blk.ext hX (by show ¬ w.heap.size = bd; omega)
  change G _ _ _ _ wi
  refine .seq (.seq (.region ?_))
  refine .p rfl rfl (.mv rfl) ?_
  refine .p rfl rfl (.fieldAddr rfl rfl rfl rfl) ?_
  refine .p rfl rfl (.load rfl rfl rfl (B1i.cell 1)) ?_
  refine .p rfl rfl (.len rfl rfl) ?_
  refine .p rfl rfl (.lt rfl rfl) ?_
  refine .nil (.code (.keep [(9, _), (1, _), (2, _)] ⟨rfl, rfl, rfl, trivial⟩ ?_))
  refine .condD rfl (fun c9 => ?_) (fun c9 => ?_)
  · have hi : i < d.data.length := by omega
    obtain ⟨bb, ds, rfl, rfl, hBb, hil⟩ := hWbi.blk hi
    refine .skip (.code (.seq (.block (.keep [(1, _), (2, _)] ⟨rfl, rfl, trivial⟩ (.region ?_)))))
    refine .p rfl rfl (.fieldAddr rfl rfl rfl rfl) ?_
    refine .p rfl rfl (.load rfl rfl rfl (B1i.cell 1)) ?_
    refine .p rfl rfl (.mv rfl) ?_
    refine .p rfl rfl (.cast (.indexAddr1 rfl rfl rfl rfl (by omega)) (show _ = Value.pointer (some ⟨bb, i, none⟩) by simp)) ?_
    refine .s rfl (.store rfl rfl rfl rfl rfl hBb hil) ?_
    intro w4 P4
    have hWb4 := hWbi.put hBb P4
    refine .nil (.blk (.code (.keep [(1, _), (2, _)] ⟨rfl, rfl, trivial⟩ (.region ?_))))
    refine .p rfl rfl (.mv rfl) ?_
    refine .p rfl rfl (.add rfl rfl (by omega)) ?_
    refine .p rfl rfl (.as rfl) ?_
    refine .nil ?_
    exact (again (i + 1, w4) ⟨by show i + 1 ≤ _; omega, hWb4, hX.trans P4.ext⟩ (by show _ - (i + 1) < _ - i; omega)).of ⟨rfl, rfl, trivial⟩
  · refine .exit rfl (.code (.seq (.keep [(1, _)] ⟨rfl, trivial⟩ (.region ?_))))
    refine .p rfl rfl (.as rfl) ?_
    refine .nil (.code (.block ?_))
    have hWd' : WrD wi bw (fun k => Q k ∧ k < w.heap.size) d.waits := by
      rcases hWd with h | ⟨cs, hC, h⟩
      · exact .inl h
      · refine .inr ⟨cs, hC.ext hX (fun he => ne he.symm), fun j hj => ?_⟩
        obtain ⟨h1, v, h2, h3⟩ := h j hj
        exact ⟨h1, v, h2, h3.ext hX (fun k hk => (hq k hk.1 hk.2).2.1)⟩
    refine .loop (S := Nat × World) (fun s => [(1, .pointer (some ⟨w.heap.size, 0, none⟩)), (3, i64 s.1)]) (fun s => s.2) (fun s => s.1 ≤ d.waits.length ∧ WrD s.2 bw (fun k => Q k ∧ k < w.heap.size) d.waits ∧ Ext (fun k => P k ∧ k < w.heap.size) w1 s.2) (fun s => d.waits.length - s.1) (0, wi) ⟨rfl, rfl, trivial⟩ rfl ⟨Nat.zero_le _, hWd', hX.mono (by rintro k _ rfl; exact ⟨p1, l1⟩)⟩ ?_
    rintro ⟨i, wj⟩ J2 ⟨hi2, hWdi, hX2⟩ again
    simp only at hi2 hWdi hX2
    have B1i := N1.blk.ext hX2 (by rintro ⟨_, h⟩; omega)
    change G _ _ _ _ wj
    refine .seq (.seq (.region ?_))
    refine .p rfl rfl (.mv rfl) ?_
    refine .p rfl rfl (.fieldAddr rfl rfl rfl rfl) ?_
    refine .p rfl rfl (.load rfl rfl rfl (B1i.cell 2)) ?_
    refine .p rfl rfl (.len rfl rfl) ?_
    refine .p rfl rfl (.lt rfl rfl) ?_
    refine .nil (.code (.keep [(20, _), (1, _), (3, _)] ⟨rfl, rfl, rfl, trivial⟩ ?_))
    refine .condD rfl (fun c20 => ?_) (fun c20 => ?_)
    · have hi : i < d.waits.length := by omega
      obtain rfl : a2 = some ⟨bw, 0, none⟩ := hsh.resolve_left (fun e => by rw [e] at hi; exact absurd hi (Nat.not_lt_zero _))
      refine .skip (.code (.seq (.block (.seq (.seq (.keep [(1, _), (3, _)] ⟨rfl, rfl, trivial⟩ (.region ?_)))))))
      refine .p rfl rfl (.as rfl) ?_
      refine .nil (.code (.block ?_))
      refine .loop (S := Nat × World) (fun s => [(1, .pointer (some ⟨w.heap.size, 0, none⟩)), (3, i64 i), (4, i64 s.1)]) (fun s => s.2) (fun s => s.1 ≤ d.waits[i].data.length ∧ WrD s.2 bw (fun k => Q k ∧ k < w.heap.size) d.waits ∧ Ext (fun k => P k ∧ k < w.heap.size) w1 s.2) (fun s => d.waits[i].data.length - s.1) (0, wj) ⟨rfl, rfl, rfl, trivial⟩ rfl ⟨Nat.zero_le _, hWdi, hX2⟩ ?_
      rintro ⟨k, wk⟩ J3 ⟨hk', hWdk, hXk⟩ again2
      simp only at hk' hWdk hXk
      have B1k := N1.blk.ext hXk (by rintro ⟨_, h⟩; omega)
      obtain ⟨ad, cd, hce, hwr⟩ := hWdk.data hi
      change G _ _ _ _ wk
      refine .seq (.seq (.region ?_))
      refine .p rfl rfl (.mv rfl) ?_
      refine .p rfl rfl (.fieldAddr rfl rfl rfl rfl) ?_
      refine .p rfl rfl (.load rfl rfl rfl (B1k.cell 2)) ?_
      refine .p rfl rfl (.mv rfl) ?_
      refine .p rfl rfl (.cast (.indexAddr (s := 2) rfl rfl rfl rfl (by omega)) (show _ = Value.pointer (some ⟨bw, i * 2, none⟩) by simp)) ?_
      refine .p rfl rfl (.fieldAddr rfl rfl rfl rfl) ?_
      refine .p rfl rfl (.load rfl rfl rfl hce) ?_
      refine .p rfl rfl (.len rfl rfl) ?_
      refine .p rfl rfl (.lt rfl rfl) ?_
      refine .nil (.code (.keep [(31, _), (1, _), (3, _), (4, _)] ⟨rfl, rfl, rfl, rfl, trivial⟩ ?_))
      refine .condD rfl (fun c31 => ?_) (fun c31 => ?_)
      · obtain ⟨bb, ds, rfl, hQb, hBb, hkl⟩ := hwr.blk (k := k) (by omega)
        have hlk := hlims i hi
        simp only [Lim] at hlk
        refine .skip (.code (.seq (.block (.keep [(1, _), (3, _), (4, _)] ⟨rfl, rfl, rfl, trivial⟩ (.region ?_)))))
        refine .p rfl rfl (.fieldAddr rfl rfl rfl rfl) ?_
        refine .p rfl rfl (.load rfl rfl rfl (B1k.cell 2)) ?_
        refine .p rfl rfl (.mv rfl) ?_
        refine .p rfl rfl (.cast (.indexAddr (s := 2) rfl rfl rfl rfl (by omega)) (show _ = Value.pointer (some ⟨bw, i * 2, none⟩) by simp)) ?_
        refine .p rfl rfl (.fieldAddr rfl rfl rfl rfl) ?_
        refine .p rfl rfl (.load rfl rfl rfl hce) ?_
        refine .p rfl rfl (.mv rfl) ?_
        refine .p rfl rfl (.cast (.indexAddr1 rfl rfl rfl rfl (by omega)) (show _ = Value.pointer (some ⟨bb, k, none⟩) by simp)) ?_
        refine .s rfl (.store rfl rfl rfl rfl rfl hBb hkl) ?_
        intro w4 P4
        have hWd4 := hWdk.putD hBb P4 (fun he => hq1 bb hQb he.symm)
        refine .nil (.blk (.code (.keep [(1, _), (3, _), (4, _)] ⟨rfl, rfl, rfl, trivial⟩ (.region ?_))))
        refine .p rfl rfl (.mv rfl) ?_
        refine .p rfl rfl (.add rfl rfl (by omega)) ?_
        refine .p rfl rfl (.as rfl) ?_
        refine .nil ?_
        exact (again2 (k + 1, w4) ⟨by show k + 1 ≤ _; omega, hWd4, hXk.trans (P4.ext.mono (by rintro j _ rfl; exact ⟨(hq _ hQb.1 hQb.2).1, hQb.2⟩))⟩ (by show _ - (k + 1) < _ - k; omega)).of ⟨rfl, rfl, rfl, trivial⟩
      · obtain ⟨cs, hBw, hwl, hput⟩ := hWdk.putW hi hq1
        refine .exit rfl (.code (.keep [(1, _), (3, _)] ⟨rfl, rfl, trivial⟩ (.region ?_)))
        refine .p rfl rfl (.fieldAddr rfl rfl rfl rfl) ?_
        refine .p rfl rfl (.load rfl rfl rfl (B1k.cell 2)) ?_
        refine .p rfl rfl (.mv rfl) ?_
        refine .p rfl rfl (.cast (.indexAddr (s := 2) rfl rfl rfl rfl (by omega)) (show _ = Value.pointer (some ⟨bw, i * 2, none⟩) by simp)) ?_
        refine .p rfl rfl (.fieldAddr rfl rfl rfl rfl) ?_
        refine .s rfl (.store rfl rfl rfl rfl rfl hBw hwl) ?_
        intro w5 P5
        have hWd5 := hput w5 _ P5
        refine .nil (.blk (.code (.keep [(1, _), (3, _)] ⟨rfl, rfl, trivial⟩ (.region ?_))))
        refine .p rfl rfl (.mv rfl) ?_
        refine .p rfl rfl (.add rfl rfl (by omega)) ?_
        refine .p rfl rfl (.as rfl) ?_
        refine .nil ?_
        exact (again (i + 1, w5) ⟨by show i + 1 ≤ _; omega, hWd5, hXk.trans (P5.ext.mono (by rintro k _ rfl; exact ⟨p2, l2⟩))⟩ (by show _ - (i + 1) < _ - i; omega)).of ⟨rfl, rfl, trivial⟩
    · refine .exit rfl ?_
      refine .fin _ rfl ?_
      exact ⟨rfl, (N1.ext.mono (fun _ _ h => h.elim)).trans hX2⟩
theorem ones_fn {w : World} {x : UInt8} : Fn Try.prog 32 [u8 x] w (fun r w2 => ∃ b, Own tByte (fun _ => False) 5 w2 r (List.replicate 128 x) b ∧ w.heap.size ≤ b ∧ Ext (fun _ => False) w w2) := by
  refine Fn.enter (fun w => Try.call32 _ w) Try.func32 rfl ?_
  refine .seq (.region ?_)
  refine .p rfl rfl (.as rfl) ?_
  refine .nil (.code (.seq (.keep [(0, _)] ⟨rfl, trivial⟩ (.region ?_))))
  refine .v rfl rfl (.make (eb := 1) rfl rfl rfl rfl rfl rfl rfl rfl (by omega)) ?_
  rintro _ w5 ⟨rfl, N5⟩
  have z5 := N5.size
  refine .p rfl rfl (.as rfl) ?_
  refine .nil (.code (.seq (.seq (.keep [(3, _), (0, _)] ⟨rfl, rfl, trivial⟩ (.region ?_)))))
  refine .p rfl rfl (.as rfl) ?_
  refine .nil (.code (.block ?_))
  refine .loop (S := Nat × World) (fun s => [(0, u8 x), (3, .slice (some ⟨w.heap.size, 0, none⟩) 128 128), (4, i64 s.1)]) (fun s => s.2) (fun s => s.1 ≤ 128 ∧ Blk s.2 w.heap.size 5 (List.replicate s.1 (u8 x) ++ List.replicate (128 - s.1) (u8 0)) ∧ Ext (fun _ => False) w s.2) (fun s => 128 - s.1) (0, w5) ⟨rfl, rfl, rfl, trivial⟩ rfl ⟨Nat.zero_le _, N5.blk, N5.ext⟩ ?_
  rintro ⟨k, wk⟩ J ⟨hk', hB, hX⟩ again
  simp only at hk' hB hX
  change G _ _ _ _ wk
  refine .seq (.seq (.region ?_))
  refine .p rfl rfl (.mv rfl) ?_
  refine .p rfl rfl (.lt rfl rfl) ?_
  refine .nil (.code (.keep [(7, _), (0, _), (3, _), (4, _)] ⟨rfl, rfl, rfl, rfl, trivial⟩ ?_))
  refine .condD rfl (fun c7 => ?_) (fun c7 => ?_)
  · refine .skip (.code (.seq (.block (.keep [(0, _), (3, _), (4, _)] ⟨rfl, rfl, rfl, trivial⟩ (.region ?_)))))
    refine .p rfl rfl (.mv rfl) ?_
    refine .p rfl rfl (.mv rfl) ?_
    refine .p rfl rfl (.mv rfl) ?_
    refine .p rfl rfl (.cast (.indexAddr1 rfl rfl rfl rfl (by omega)) (show _ = Value.pointer (some ⟨w.heap.size, k, none⟩) by simp)) ?_
    refine .s rfl (.store rfl rfl rfl rfl rfl hB (by simp; omega)) ?_
    intro w6 P6
    refine .nil (.blk (.code (.keep [(0, _), (3, _), (4, _)] ⟨rfl, rfl, rfl, trivial⟩ (.region ?_))))
    refine .p rfl rfl (.mv rfl) ?_
    refine .p rfl rfl (.add rfl rfl (by omega)) ?_
    refine .p rfl rfl (.as rfl) ?_
    refine .nil ?_
    refine (again (k + 1, w6) ⟨by show k + 1 ≤ _; omega, ?_, hX.then P6.ext (by rintro k rfl _; exact Nat.le_refl _)⟩ (by show _ - (k + 1) < _ - k; omega)).of ⟨rfl, rfl, rfl, trivial⟩
    have B6 := P6.blk
    rw [List.set_append_right _ _ (by simp), List.length_replicate, Nat.sub_self, show 128 - k = (128 - (k + 1)) + 1 by omega, List.replicate_succ, List.set_cons_zero] at B6
    show Blk w6 _ _ (List.replicate (k + 1) (u8 x) ++ List.replicate (128 - (k + 1)) (u8 0))
    rw [List.replicate_succ', List.append_assoc]
    exact B6
  · refine .exit rfl (.code (.seq (.keep [(3, _)] ⟨rfl, trivial⟩ (.region ?_))))
    refine .p rfl rfl (.mv rfl) ?_
    refine .p rfl rfl (.as rfl) ?_
    refine .nil (.code ?_)
    refine .ret _ rfl ?_
    obtain rfl : k = 128 := by omega
    exact ⟨w.heap.size, Own.ofBlk (sp := []) (by rw [List.map_replicate]; simpa using hB) (by simp [Lim]) (by simp) (by simp), Nat.le_refl _, hX⟩
end Go.Proofs.Ytfgjpiemnfefmaa
