
/-
  The statements of chapter 02: what they go through; disks written over; sectors of one byte.
-/
import Derived.Test.YtapdacjpmmjlhaaRef02c
set_option linter.unusedVariables false
set_option linter.unusedSimpArgs false
set_option maxRecDepth 20000
namespace Go.Proofs.Ytapdacjpmmjlhaa
open Go disk
namespace disk
def largeP (d : Disk) : Prop := (40000 < d.data.length ∧ 0 < d.count ∧ d.count ≤ 4096) ∨ 600000 < d.data.length ∨ (300 < d.waits.length ∧ d.waits.length < 4090) ∨ 4200 < d.waits.length
instance (d : Disk) : Decidable (largeP d) := by unfold largeP; infer_instance
def largeB (d : Disk) : Bool := decide (largeP d)
theorem large_not {d : Disk} (h : largeB d = false) : d.data.length ≤ 600000 ∧ d.waits.length ≤ 4200 := by
  have h := of_decide_eq_false h
  unfold largeP at h
  omega
end disk
theorem Blk.inj {w : World} {b : Nat} {E E' : TypeId} {cs cs' : List Value} (h : Blk w b E cs) (h' : Blk w b E' cs') : cs = cs' := by
  obtain ⟨f1, h1, _⟩ := h.heap
  obtain ⟨f2, h2, _⟩ := h'.heap
  rw [h1] at h2
  simp only [Option.some.injEq, Obj.cells.injEq] at h2
  exact List.toArray_inj h2.1
theorem flat_at {n : Nat} {us : List Value} {j t : Nat} {u : Value} (hs : ∀ x ∈ us, x.cells.size = n) (hj : us[j]? = some u) (ht : t < n) : (flat us)[j * n + t]? = u.cells.toList[t]? := by
  have hlt : j < us.length := (List.getElem?_eq_some_iff.1 hj).1
  have hu : us[j] = u := by rw [List.getElem?_eq_getElem hlt] at hj; simpa using hj
  have h1 : (flat us).drop (j * n) = u.cells.toList ++ flat (us.drop (j + 1)) := by
    rw [← flat_drop j hs, List.drop_eq_getElem_cons hlt, flat_cons, hu]
  have h2 : u.cells.toList.length = n := by rw [Array.length_toList]; exact hs u (hu ▸ List.getElem_mem hlt)
  rw [← List.getElem?_drop, h1, List.getElem?_append_left (by omega)]
/-- n bytes that may be written, nil or in a block that Q allows -/
def WrB (W : World) (Q : Nat → Prop) (v : Value) (n : Nat) : Prop := (n = 0 ∧ v = .slice none 0 0) ∨ ∃ b c ds, v = .slice (some ⟨b, 0, none⟩) n c ∧ Q b ∧ Blk W b 5 ds ∧ n ≤ ds.length
section
variable {W W2 : World} {Q : Nat → Prop} {v u : Value} {n k b bw : Nat} {ds : List Value} {S : Nat → Prop} {xs : List disk.Put}
theorem WrB.put (h : WrB W Q v n) (hB : Blk W b 5 ds) (P : Go.Proofs.Ytapdacjpmmjlhaa.Put W W2 b 5 (ds.set k u)) : WrB W2 Q v n := by
  rcases h with h | ⟨b1, c, ds1, rfl, hq, hB1, hn⟩
  · exact .inl h
  · by_cases e : b1 = b
    · subst e
      have := hB1.inj hB
      subst this
      exact .inr ⟨b1, c, _, rfl, hq, P.blk, by simpa using hn⟩
    · exact .inr ⟨b1, c, ds1, rfl, hq, hB1.ext P.ext e, hn⟩
theorem WrB.ext (h : WrB W Q v n) (hx : Ext S W W2) (hs : ∀ k, Q k → ¬ S k) : WrB W2 Q v n := by
  rcases h with h | ⟨b1, c, ds1, rfl, hq, hB1, hn⟩
  · exact .inl h
  · exact .inr ⟨b1, c, ds1, rfl, hq, hB1.ext hx (hs b1 hq), hn⟩
theorem WrB.val (h : WrB W Q v n) : ∃ a c, v = .slice a n c := by
  rcases h with ⟨rfl, rfl⟩ | ⟨b1, c, ds1, rfl, _⟩
  · exact ⟨none, 0, rfl⟩
  · exact ⟨_, c, rfl⟩
theorem WrB.blk {a : Option Addr} {c : Nat} (h : WrB W Q (.slice a n c) n) (hk : k < n) : ∃ b ds, a = some ⟨b, 0, none⟩ ∧ Q b ∧ Blk W b 5 ds ∧ k < ds.length := by
  rcases h with ⟨rfl, _⟩ | ⟨b1, c, ds1, e, hq, hB1, hn⟩
  · omega
  · cases e
    exact ⟨b1, ds1, rfl, hq, hB1, by omega⟩
theorem WrB.of {P : Nat → Prop} {l : Bs} (h : Own tByte P 5 W v l b) (hb : b < W.heap.size → Q b) : WrB W Q v l.length := by
  rcases h.pick 0 with ⟨h1, h2⟩ | h1
  · by_cases hne : l = []
    · subst hne
      obtain ⟨hl, ⟨_, rfl⟩ | ⟨cap, us, sp, rfl, hc, he, hB, hn⟩⟩ := h1
      · exact .inl ⟨rfl, rfl⟩
      · exact .inr ⟨b, cap, _, rfl, hb h2, hB, Nat.zero_le _⟩
    · obtain ⟨cap, sp, rfl, hc, hB, hn⟩ := h1.blk hne
      exact .inr ⟨b, cap, _, rfl, hb h2, hB, by simp⟩
  · obtain ⟨hl, ⟨rfl, rfl⟩ | ⟨cap, us, sp, rfl, hc, he, hB, hn⟩⟩ := h
    · exact .inl ⟨rfl, rfl⟩
    · refine .inr ⟨b, cap, _, rfl, hb hB.lt, hB, ?_⟩
      have := hc
      rw [hn]
      show l.length ≤ cap * 1
      omega
theorem WrB.mono {Q' : Nat → Prop} (h : WrB W Q v n) (hq : ∀ k, Q k → Q' k) : WrB W Q' v n := by
  rcases h with h | ⟨b1, c, ds1, rfl, h1, hB1, hn⟩
  · exact .inl h
  · exact .inr ⟨b1, c, ds1, rfl, hq _ h1, hB1, hn⟩
/-- writes whose bytes may be written -/
def WrD (W : World) (bw : Nat) (Q : Nat → Prop) (xs : List disk.Put) : Prop := xs = [] ∨ ∃ cs, Blk W bw 62 cs ∧ ∀ j (h : j < xs.length), j * 2 + 1 < cs.length ∧ ∃ v, cs[j * 2 + 1]? = some v ∧ WrB W Q v xs[j].data.length
theorem WrD.data (h : WrD W bw Q xs) {i : Nat} (hi : i < xs.length) : ∃ a c, W.cell? ⟨bw, i * 2 + 1, none⟩ = some (.slice a xs[i].data.length c) ∧ WrB W Q (.slice a xs[i].data.length c) xs[i].data.length := by
  rcases h with rfl | ⟨cs, hB, h⟩
  · exact absurd hi (Nat.not_lt_zero _)
  · obtain ⟨h1, v, h2, h3⟩ := h i hi
    obtain ⟨a, c, rfl⟩ := h3.val
    exact ⟨a, c, by rw [hB.cell]; exact h2, h3⟩
theorem WrD.putD (h : WrD W bw Q xs) (hB : Blk W b 5 ds) (P : Go.Proofs.Ytapdacjpmmjlhaa.Put W W2 b 5 (ds.set k u)) (hne : bw ≠ b) : WrD W2 bw Q xs := by
  rcases h with h | ⟨cs, hC, h⟩
  · exact .inl h
  · refine .inr ⟨cs, hC.ext P.ext hne, fun j hj => ?_⟩
    obtain ⟨h1, v, h2, h3⟩ := h j hj
    exact ⟨h1, v, h2, h3.put hB P⟩
theorem WrD.putW (h : WrD W bw Q xs) {i : Nat} (hi : i < xs.length) (hq : ∀ k, Q k → k ≠ bw) : ∃ cs, Blk W bw 62 cs ∧ i * 2 < cs.length ∧ ∀ W2 u, Go.Proofs.Ytapdacjpmmjlhaa.Put W W2 bw 62 (cs.set (i * 2) u) → WrD W2 bw Q xs := by
  rcases h with rfl | ⟨cs, hC, h⟩
  · exact absurd hi (Nat.not_lt_zero _)
  · refine ⟨cs, hC, by have := (h i hi).1; omega, fun W2 u P => .inr ⟨_, P.blk, fun j hj => ?_⟩⟩
    obtain ⟨h1, v, h2, h3⟩ := h j hj
    exact ⟨by simpa using h1, v, by rw [List.getElem?_set_ne (by omega)]; exact h2, h3.ext P.ext hq⟩
theorem WrD.of (h : Own tPutO Q 62 W v xs b) : WrD W b Q xs := by
  obtain ⟨hl, ⟨rfl, rfl⟩ | ⟨cap, us, sp, rfl, hc, he, hB, hn⟩⟩ := h
  · exact .inl rfl
  · refine .inr ⟨_, hB, fun j hj => ?_⟩
    have hsz := he.mem (n := 2) (fun u x h => tPutO.sz h)
    obtain ⟨u, hu, hr⟩ := he.get (List.getElem?_eq_getElem hj)
    obtain ⟨ud, rfl, hud, _⟩ := tPutO.val hr
    have hlt : j < us.length := (List.getElem?_eq_some_iff.1 hu).1
    have hfl := flat_length hsz
    refine ⟨by rw [List.length_append, hfl]; omega, ud, ?_, ?_⟩
    · rw [List.getElem?_append_left (by rw [hfl]; omega), flat_at hsz hu (by omega)]
      rfl
    · rcases hud with ⟨h1, rfl⟩ | ⟨b1, h1, h2, h3⟩
      · exact .inl ⟨by rw [h1]; rfl, rfl⟩
      · exact WrB.of h3 (fun _ => h1)
end
end Go.Proofs.Ytapdacjpmmjlhaa
