import Derived.Test.YthliepcjfnjnoaaGreatDoorB12
import Derived.Test.YthliepcjfnjnoaaGreatDoorB09
import Derived.Test.YthliepcjfnjnoaaGreatDoorB08
import Derived.Laws.StructEq
import Derived.Test.YthliepcjfnjnoaaGreatDoorB10
import Derived.Test.YthliepcjfnjnoaaGreatDoorB04
import Derived.Test.YthliepcjfnjnoaaGreatDoorB11
import Derived.Test.YthliepcjfnjnoaaGreatDoorB07
set_option linter.unusedVariables false
set_option linter.unusedSimpArgs false
set_option maxRecDepth 20000
namespace Go.Proofs.YthliepcjfnjnoaaGreatDoor
open Go disk
namespace disk
def largeP (d : Disk) : Prop := (40000 < d.data.length ∧ 0 < d.count ∧ d.count ≤ 4096) ∨ 600000 < d.data.length ∨ (300 < d.waits.length ∧ d.waits.length < 4090) ∨ 4200 < d.waits.length
instance (d : Disk) : Decidable (largeP d) := by unfold largeP; infer_instance
end disk
theorem Blk.inj {w : World} {b : Nat} {E E' : TypeId} {cs cs' : List Value} (h : Blk w b E cs) (h' : Blk w b E' cs') : cs = cs' := by
  obtain ⟨f1, h1, _⟩ := h.heap
  obtain ⟨f2, h2, _⟩ := h'.heap
  rw [h1] at h2
  simp only [Option.some.injEq, Obj.cells.injEq] at h2
  exact List.toArray_inj h2.1
theorem flat_at {n : Nat} {us : List Value} {j t : Nat} {u : Value} (hs : ∀ x ∈ us, x.cells.size = n) (hj : us[j]? = some u) (ht : t < n) : (flat us)[j * n + t]? = u.cells.toList[t]? := by
  have hlt : j < us.length := (List.getElem?_eq_some_iff.1 hj).1
  have hu : us[j] = u := by rw [List.getElem?_eq_getElem hlt] at hj; simpa using hj
  have h1 : (flat us).drop (j * n) = u.cells.toList ++ flat (us.drop (j + 1)) := by
    rw [← flat_drop j hs, List.drop_eq_getElem_cons hlt, flat_cons, hu]
  have h2 : u.cells.toList.length = n := by rw [Array.length_toList]; exact hs u (hu ▸ List.getElem_mem hlt)
  rw [← List.getElem?_drop, h1, List.getElem?_append_left (by omega)]
def WrB (W : World) (Q : Nat → Prop) (v : Value) (n : Nat) : Prop := (n = 0 ∧ v = .slice none 0 0) ∨ ∃ b c ds, v = .slice (some ⟨b, 0, none⟩) n c ∧ Q b ∧ Blk W b 5 ds ∧ n ≤ ds.length
section
variable {W W2 : World} {Q : Nat → Prop} {v u : Value} {n k b bw : Nat} {ds : List Value} {S : Nat → Prop} {xs : List disk.Put}
theorem WrB.put (h : WrB W Q v n) (hB : Blk W b 5 ds) (P : Go.Proofs.YthliepcjfnjnoaaGreatDoor.Put W W2 b 5 (ds.set k u)) : WrB W2 Q v n := by
  rcases h with h | ⟨b1, c, ds1, rfl, hq, hB1, hn⟩
  · exact .inl h
  · by_cases e : b1 = b
    · subst e
      have := hB1.inj hB
      subst this
      exact .inr ⟨b1, c, _, rfl, hq, P.blk, by simpa using hn⟩
    · exact .inr ⟨b1, c, ds1, rfl, hq, hB1.ext P.ext e, hn⟩
theorem WrB.ext (h : WrB W Q v n) (hx : Ext S W W2) (hs : ∀ k, Q k → ¬ S k) : WrB W2 Q v n := by
  rcases h with h | ⟨b1, c, ds1, rfl, hq, hB1, hn⟩
  · exact .inl h
  · exact .inr ⟨b1, c, ds1, rfl, hq, hB1.ext hx (hs b1 hq), hn⟩
theorem WrB.val (h : WrB W Q v n) : ∃ a c, v = .slice a n c := by
  rcases h with ⟨rfl, rfl⟩ | ⟨b1, c, ds1, rfl, _⟩
  · exact ⟨none, 0, rfl⟩
  · exact ⟨_, c, rfl⟩
theorem WrB.blk {a : Option Addr} {c : Nat} (h : WrB W Q (.slice a n c) n) (hk : k < n) : ∃ b ds, a = some ⟨b, 0, none⟩ ∧ Q b ∧ Blk W b 5 ds ∧ k < ds.length := by
  rcases h with ⟨rfl, _⟩ | ⟨b1, c, ds1, e, hq, hB1, hn⟩
  · omega
  · cases e
    exact ⟨b1, ds1, rfl, hq, hB1, by omega⟩
theorem WrB.of {P : Nat → Prop} {l : Bs} (h : Own tByte P 5 W v l b) (hb : b < W.heap.size → Q b) : WrB W Q v l.length := by
  rcases h.pick 0 with ⟨h1, h2⟩ | h1
  · by_cases hne : l = []
    · subst hne
      obtain ⟨hl, ⟨_, rfl⟩ | ⟨cap, us, sp, rfl, hc, he, hB, hn⟩⟩ := h1
      · exact .inl ⟨rfl, rfl⟩
      · exact .inr ⟨b, cap, _, rfl, hb h2, hB, Nat.zero_le _⟩
    · obtain ⟨cap, sp, rfl, hc, hB, hn⟩ := h1.blk hne
      exact .inr ⟨b, cap, _, rfl, hb h2, hB, by simp⟩
  · obtain ⟨hl, ⟨rfl, rfl⟩ | ⟨cap, us, sp, rfl, hc, he, hB, hn⟩⟩ := h
    · exact .inl ⟨rfl, rfl⟩
    · refine .inr ⟨b, cap, _, rfl, hb hB.lt, hB, ?_⟩
      have := hc
      rw [hn]
      show l.length ≤ cap * 1
      omega
theorem WrB.mono {Q' : Nat → Prop} (h : WrB W Q v n) (hq : ∀ k, Q k → Q' k) : WrB W Q' v n := by
  rcases h with h | ⟨b1, c, ds1, rfl, h1, hB1, hn⟩
  · exact .inl h
  · exact .inr ⟨b1, c, ds1, rfl, hq _ h1, hB1, hn⟩
def WrD (W : World) (bw : Nat) (Q : Nat → Prop) (xs : List disk.Put) : Prop := xs = [] ∨ ∃ cs, Blk W bw 94 cs ∧ ∀ j (h : j < xs.length), j * 2 + 1 < cs.length ∧ ∃ v, cs[j * 2 + 1]? = some v ∧ WrB W Q v xs[j].data.length
theorem WrD.data (h : WrD W bw Q xs) {i : Nat} (hi : i < xs.length) : ∃ a c, W.cell? ⟨bw, i * 2 + 1, none⟩ = some (.slice a xs[i].data.length c) ∧ WrB W Q (.slice a xs[i].data.length c) xs[i].data.length := by
  rcases h with rfl | ⟨cs, hB, h⟩
  · exact absurd hi (Nat.not_lt_zero _)
  · obtain ⟨h1, v, h2, h3⟩ := h i hi
    obtain ⟨a, c, rfl⟩ := h3.val
    exact ⟨a, c, by rw [hB.cell]; exact h2, h3⟩
theorem WrD.of (h : Own tPutO Q 94 W v xs b) : WrD W b Q xs := by
  obtain ⟨hl, ⟨rfl, rfl⟩ | ⟨cap, us, sp, rfl, hc, he, hB, hn⟩⟩ := h
  · exact .inl rfl
  · refine .inr ⟨_, hB, fun j hj => ?_⟩
    have hsz := he.mem (n := 2) (fun u x h => tPutO.sz h)
    obtain ⟨u, hu, hr⟩ := he.get (List.getElem?_eq_getElem hj)
    obtain ⟨ud, rfl, hud, _⟩ := tPutO.val hr
    have hlt : j < us.length := (List.getElem?_eq_some_iff.1 hu).1
    have hfl := flat_length hsz
    refine ⟨by rw [List.length_append, hfl]; omega, ud, ?_, ?_⟩
    · rw [List.getElem?_append_left (by rw [hfl]; omega), flat_at hsz hu (by omega)]
      rfl
    · rcases hud with ⟨h1, rfl⟩ | ⟨b1, h1, h2, h3⟩
      · exact .inl ⟨by rw [h1]; rfl, rfl⟩
      · exact WrB.of h3 (fun _ => h1)
end
end Go.Proofs.YthliepcjfnjnoaaGreatDoor
namespace Go.Proofs.YthliepcjfnjnoaaGreatDoor
open Go disk
theorem own_all {w : World} {v : Value} {l : Bs} {b : Nat} (h : Own tByte (fun _ => False) 5 w v l b) : tBytes.rep All w v l := h.rep trivial (fun _ h _ => h.elim)
theorem tDisk.shape {P : Nat → Prop} {w : World} {v : Value} {d : Disk} (h : tDisk.rep P w v d) : ∃ a1 c1 a2 c2, v = .agg #[i64 d.count, .slice a1 d.data.length c1, .slice a2 d.waits.length c2] := by
  obtain ⟨u, u', rfl, hd, hw, _⟩ := tDisk.val h
  obtain ⟨a, cap, rfl, _⟩ := Sl.val hd
  obtain ⟨aw, capw, rfl, _⟩ := Sl.val hw
  exact ⟨_, _, _, _, rfl⟩
end Go.Proofs.YthliepcjfnjnoaaGreatDoor
namespace Go.Proofs.YthliepcjfnjnoaaGreatDoor
open Go disk
namespace disk
def secOf (l : Bs) (n : Nat) : Bs := (l.drop (n * 128)).take 128
def lastK (d : Disk) (keep : Nat → Bool) (n : Nat) : Nat → Bs
  | 0 => secOf d.data n
  | k + 1 => match d.waits[k]? with | some p => if keep k = true ∧ p.sector = (n : Int) then p.data else lastK d keep n k | none => lastK d keep n k
theorem secOf_patch {l x : Bs} {m n : Nat} (hx : x.length = 128) (hm : m * 128 + 128 ≤ l.length) (hn : n * 128 + 128 ≤ l.length) : secOf (patch l (m * 128) x) n = if m = n then x else secOf l n := by
  unfold secOf patch
  rw [hx]
  have h1 : (l.take (m * 128)).length = m * 128 := by simp; omega
  split
  · rename_i h
    subst h
    rw [List.append_assoc, List.drop_append, h1, Nat.sub_self, List.drop_zero, List.drop_of_length_le (by omega), List.nil_append, List.take_append_of_le_length (by omega), List.take_of_length_le (by omega)]
  · rename_i h
    rcases Nat.lt_or_gt_of_ne h with h | h
    · have h2 : (l.take (m * 128) ++ x).length = m * 128 + 128 := by rw [List.length_append, h1, hx]
      rw [List.drop_append, h2, List.drop_of_length_le (by omega), List.nil_append, List.drop_drop]
      congr 2
      omega
    · rw [List.append_assoc, List.drop_append, h1, List.take_append_of_le_length (by simp; omega), List.drop_take, List.take_take]
      congr 1
      omega
theorem settled_sec {d : Disk} (hc : checkF d = 0) (keep : Nat → Bool) {n : Nat} (hn : (n : Int) < d.count) : ∀ k, secOf (settled d keep k) n = lastK d keep n k
  | 0 => rfl
  | k + 1 => by
    obtain ⟨k1, k2, k3, k4, k5⟩ := check_ok hc
    have ih := settled_sec hc keep hn k
    rw [settled, lastK]
    cases hp : d.waits[k]? with
    | none => exact ih
    | some p =>
      show secOf (if keep k = true then patch (settled d keep k) (p.sector.toNat * 128) p.data else settled d keep k) n = if keep k = true ∧ p.sector = (n : Int) then p.data else lastK d keep n k
      have h5 := k5 p (List.mem_of_getElem? hp)
      have hl := settled_length hc keep k
      by_cases hk : keep k = true
      · rw [if_pos hk, secOf_patch h5.2.2 (by rw [hl]; omega) (by rw [hl]; omega), ih]
        by_cases hs : p.sector = (n : Int)
        · rw [if_pos (by omega), if_pos ⟨hk, hs⟩]
        · rw [if_neg (by omega), if_neg (fun h => hs h.2)]
      · rw [if_neg hk, if_neg (fun h => hk h.1)]
        exact ih
theorem lastOf_snoc (ws : List disk.Put) (p : disk.Put) (n : Int) : lastOf (ws ++ [p]) n = if p.sector = n then some p.data else lastOf ws n := by
  unfold lastOf
  rw [List.reverse_append, List.reverse_singleton, List.singleton_append, List.find?_cons]
  split
  · rename_i h
    rw [if_pos (by simpa using h)]
    rfl
  · rename_i h
    rw [if_neg (by simpa using h)]
theorem lastK_all (d : Disk) (n : Nat) : ∀ k, k ≤ d.waits.length → lastK d (fun _ => true) n k = match lastOf (d.waits.take k) n with | some b => b | none => secOf d.data n
  | 0, _ => rfl
  | k + 1, h => by
    have hk : k < d.waits.length := by omega
    rw [lastK, List.getElem?_eq_getElem hk, List.take_succ_eq_append_getElem hk, lastOf_snoc]
    simp only [true_and]
    split
    · rfl
    · exact lastK_all d n k (by omega)
theorem flush_sec {d : Disk} (hc : checkF d = 0) {n : Nat} (hn : (n : Int) < d.count) : secOf (settled d (fun _ => true) d.waits.length) n = readF d n := by
  rw [settled_sec hc _ hn, lastK_all d n _ (Nat.le_refl _), List.take_length]
  rfl
theorem asked_of {d : Disk} {n : Int} (h : checkF d = 0) (h1 : 0 ≤ n) (h2 : n < d.count) : askedF d n = 0 := by
  unfold askedF
  rw [if_neg (by simp [h]), if_neg (by omega)]
theorem readF_put_same {d : Disk} {n : Int} {b : Bs} : readF { d with waits := d.waits ++ [⟨n, b⟩] } n = b := by
  unfold readF
  rw [lastOf_snoc, if_pos rfl]
theorem readF_put_other {d : Disk} {n m : Int} {b : Bs} (h : ¬ m = n) : readF { d with waits := d.waits ++ [⟨n, b⟩] } m = readF d m := by
  unfold readF
  rw [lastOf_snoc, if_neg (fun e => h e.symm)]
theorem flush_ok {d : Disk} (h : checkF d = 0) : doF d [⟨true, 0, []⟩] = (settleD d (fun _ => true), 0) := by
  unfold doF
  rw [if_neg (by simp [h])]
  rfl
theorem readF_settle (d : Disk) (keep : Nat → Bool) (n : Int) : readF (settleD d keep) n = secOf (settled d keep d.waits.length) n.toNat := rfl
theorem flush_read {d : Disk} (hc : checkF d = 0) {n : Int} (h0 : 0 ≤ n) (hn : n < d.count) : secOf (settled d (fun _ => true) d.waits.length) n.toNat = readF d n := by
  have := flush_sec hc (n := n.toNat) (by omega)
  rw [this]
  congr 1
  omega
def D0 : Disk := ⟨2, List.replicate 256 0, []⟩
def D1 : Disk := ⟨2, List.replicate 256 0, [⟨1, List.replicate 128 1⟩]⟩
end disk
end Go.Proofs.YthliepcjfnjnoaaGreatDoor
namespace Go.Proofs.YthliepcjfnjnoaaGreatDoor
open Go disk
theorem Read0_fn {w : World} {v : Value} {d : Disk} {n : Int} (h : tDisk.rep All w v d) (hA : askedF d n = 0) : Fn Tryz.prog 82 [v, i64 n] w (fun r w2 => ∃ s, r = .tuple #[s, i64 0] ∧ tBytes.rep All w2 s (readF d n) ∧ Ext (fun _ => False) w w2) :=
  (DiskRead_fn (n := n) h).mono fun r w2 ⟨s, b, h1, h2, _, h3⟩ => ⟨s, by rw [h1, hA], by rw [if_pos hA] at h2; exact own_all h2, h3⟩
end Go.Proofs.YthliepcjfnjnoaaGreatDoor
namespace Go.Proofs.YthliepcjfnjnoaaGreatDoor
open Go disk
namespace disk
theorem doN_ok (c : Int) : ∀ (l m : List Act) (out : Disk), checkF out = 0 → out.count = c → (doN c l out).2 = 0 → doN c (l ++ m) out = doN c m (doN c l out).1 ∧ checkF (doN c l out).1 = 0 ∧ (doN c l out).1.count = c
  | [], m, out, hc, hn, h => ⟨rfl, hc, hn⟩
  | a :: l, m, out, hc, hn, h => by
    rw [List.cons_append, doN, doN]
    rw [doN] at h
    split
    · rename_i h1; rw [if_pos h1] at h; exact doN_ok c l m _ (check_settle hc _) hn h
    · rename_i h1
      rw [if_neg h1] at h
      split
      · rename_i h2; rw [if_pos h2] at h; cases h
      · rename_i h2
        rw [if_neg h2] at h
        split
        · rename_i h3; rw [if_pos h3] at h; cases h
        · rename_i h3
          rw [if_neg h3] at h
          split
          · rename_i h4; rw [if_pos h4] at h; cases h
          · rename_i h4
            rw [if_neg h4] at h
            exact doN_ok c l m _ (check_put hc (by omega) ⟨by omega, by omega, by omega⟩) hn h
theorem doF_first_ok {d y : Disk} {l m : List Act} (h : doF d l = (y, 0)) : doF d (l ++ m) = doF y m := by
  unfold doF at h
  split at h
  · rename_i h1; exact absurd (Prod.mk.inj h).2 h1
  · rename_i h1
    have hc : checkF d = 0 := Decidable.byContradiction h1
    obtain ⟨h2, h3, h4⟩ := doN_ok d.count l m d hc rfl (by rw [h])
    rw [h] at h2 h3 h4
    unfold doF
    rw [if_neg h1, if_neg (by simp [h3]), h2, h4]
end disk
end Go.Proofs.YthliepcjfnjnoaaGreatDoor
namespace Go.Proofs.YthliepcjfnjnoaaGreatDoor
open Go room
namespace room
def inP (p : Piece) (k : Nat) : Int := if p.fr ≤ (k : Int) ∧ (k : Int) < p.fr + p.ct then 1 else 0
def cnt : List Piece → Nat → Int
  | [], _ => 0
  | p :: l, k => inP p k + cnt l k
theorem cnt_apart : ∀ {l : List Piece}, l.Pairwise apart → ∀ k, cnt l k = if covB l k = true then 1 else 0
  | [], _, k => rfl
  | p :: l, h, k => by
    obtain ⟨h1, h2⟩ := List.pairwise_cons.1 h
    have ih := cnt_apart h2 k
    rw [cnt, ih, show covB (p :: l) k = (decide (p.fr ≤ (k : Int) ∧ (k : Int) < p.fr + p.ct) || covB l k) from by simp [covB]]
    unfold inP
    by_cases hp : p.fr ≤ (k : Int) ∧ (k : Int) < p.fr + p.ct
    · have hn : covB l k = false := covB_false (fun q hq hh => by have := h1 q hq; unfold apart at this; omega)
      rw [if_pos hp, hn, decide_eq_true hp]; rfl
    · rw [if_neg hp, decide_eq_false hp, Bool.false_or, Int.zero_add]
end room
end Go.Proofs.YthliepcjfnjnoaaGreatDoor
namespace Go.Proofs.YthliepcjfnjnoaaGreatDoor
open Go
namespace room
def sumN (f : Nat → Int) : Nat → Int
  | 0 => 0
  | n + 1 => sumN f n + f n
theorem sumN_add (f g : Nat → Int) : ∀ n, sumN (fun k => f k + g k) n = sumN f n + sumN g n
  | 0 => rfl
  | n + 1 => by rw [sumN, sumN, sumN, sumN_add f g n]; omega
theorem sumN_le {f : Nat → Int} : ∀ {n : Nat}, (∀ k, k < n → f k ≤ 1) → sumN f n ≤ n
  | 0, _ => by simp [sumN]
  | n + 1, h => by have := sumN_le (f := f) (n := n) (fun k hk => h k (by omega)); have := h n (by omega); rw [sumN]; omega
theorem sum_in {p : Piece} (h0 : 0 ≤ p.fr) (h1 : 0 ≤ p.ct) : ∀ n : Nat, sumN (inP p) n = max 0 (min (n : Int) (p.fr + p.ct) - p.fr)
  | 0 => by rw [sumN]; omega
  | n + 1 => by
    rw [sumN, sum_in h0 h1 n]
    unfold inP
    split <;> omega
theorem total_sum {n : Nat} : ∀ {l : List Piece}, (∀ p ∈ l, okP (n : Int) p) → totalF l = sumN (cnt l) n
  | [], _ => by
    rw [totalF]
    induction n with
    | zero => rfl
    | succ n ih => rw [sumN, ← ih (fun p hp => by cases hp)]; rfl
  | p :: l, h => by
    have h0 := h p (by simp)
    unfold okP at h0
    rw [totalF, total_sum (fun q hq => h q (List.mem_cons_of_mem _ hq)), show cnt (p :: l) = fun k => inP p k + cnt l k from rfl, sumN_add, sum_in (by omega) (by omega)]
    omega
theorem total_ge : ∀ {l : List Piece}, (∀ p ∈ l, 1 ≤ p.ct) → (l.length : Int) ≤ totalF l
  | [], _ => by simp [totalF]
  | p :: l, h => by
    have h0 := h p (by simp)
    have := total_ge (l := l) (fun q hq => h q (List.mem_cons_of_mem _ hq))
    simp only [totalF, List.length_cons]; omega
theorem may_length {n : Nat} {l : List Piece} (h : mayP (n : Int) l) : l.length ≤ n ∧ totalF l ≤ n := by
  have h1 := total_ge (l := l) (fun p hp => (h.1 p hp).1)
  have h2 := total_sum h.1
  have h3 := sumN_le (f := cnt l) (n := n) (fun k _ => by rw [cnt_apart h.2]; split <;> omega)
  omega
theorem take_append : ∀ {o r : List Piece} {m : Int}, (∀ p ∈ o, 1 ≤ p.ct) → totalF o ≤ m → takeF (o ++ r) m = o ++ takeF r (m - totalF o)
  | [], r, m, _, _ => by simp [totalF]
  | p :: o, r, m, h, hm => by
    have h0 := h p (by simp)
    have h1 := total_pos (l := o) (fun q hq => h q (List.mem_cons_of_mem _ hq))
    simp only [totalF] at hm
    rw [List.cons_append, takeF, if_neg (by omega), show min p.ct m = p.ct by omega, take_append (fun q hq => h q (List.mem_cons_of_mem _ hq)) (by omega), totalF, show m - p.ct - totalF o = m - (p.ct + totalF o) by omega]
    rfl
end room
end Go.Proofs.YthliepcjfnjnoaaGreatDoor
namespace Go.Proofs.YthliepcjfnjnoaaGreatDoor
open Go
namespace log
def put4 (n : UInt32) : Bs := (put8 n.toNat).take 4
def get4 (l : Bs) : UInt32 := UInt32.ofNat (getTo (l.take 4 ++ [0, 0, 0, 0]) 8)
def needs (n : Nat) : Nat := max 1 ((n + 111) / 112)
def pieceOf (r : Bs) (i : Nat) : Bs := (r.drop (112 * i)).take 112
def sectorOf (epoch salt prev : UInt32) (r : Bs) (n i : Nat) : Bs :=
  put4 epoch ++ put4 salt ++ put4 prev ++ [UInt8.ofNat i, UInt8.ofNat n, UInt8.ofNat (pieceOf r i).length, 0] ++ pieceOf r i ++ List.replicate (112 - (pieceOf r i).length) 0
def frameTo (epoch salt prev : UInt32) (r : Bs) (n k : Nat) : Bs := (List.range k).flatMap (sectorOf epoch salt prev r n)
def frameL (epoch salt prev : UInt32) (r : Bs) : Bs := frameTo epoch salt prev r (needs r.length) (needs r.length)
def frameF (epoch salt prev : UInt32) (r : Bs) : Bs × Int :=
  if epoch = 0 ∨ salt = 0 then ([], 2) else if 4096 < r.length then ([], 3) else (frameL epoch salt prev r, 0)
theorem put4_length (n : UInt32) : (put4 n).length = 4 := by simp [put4, put8_length]
theorem piece_le (r : Bs) (i : Nat) : (pieceOf r i).length ≤ 112 := by simp [pieceOf]; omega
theorem sectorOf_length (epoch salt prev : UInt32) (r : Bs) (n i : Nat) : (sectorOf epoch salt prev r n i).length = 128 := by
  have := piece_le r i
  simp [sectorOf, put4_length]
  omega
theorem frameTo_length (epoch salt prev : UInt32) (r : Bs) (n : Nat) : ∀ k, (frameTo epoch salt prev r n k).length = k * 128
  | 0 => rfl
  | k + 1 => by
    have h := frameTo_length epoch salt prev r n k
    unfold frameTo at *
    rw [List.range_succ, List.flatMap_append, List.length_append, h]
    simp [sectorOf_length]
    omega
theorem frameTo_succ (epoch salt prev : UInt32) (r : Bs) (n k : Nat) : frameTo epoch salt prev r n (k + 1) = frameTo epoch salt prev r n k ++ sectorOf epoch salt prev r n k := by
  unfold frameTo
  rw [List.range_succ, List.flatMap_append]
  simp
theorem needs_bd {n : Nat} (h : n ≤ 4096) : 1 ≤ needs n ∧ needs n ≤ 37 := by unfold needs; omega
theorem needs_fit {n i : Nat} (h : i < needs n) : 112 * i ≤ n := by unfold needs at h; omega
def patch (b : Bs) (o : Nat) (l : Bs) : Bs := b.take o ++ l ++ b.drop (o + l.length)
theorem patch_length (b : Bs) (o : Nat) (l : Bs) (h : o + l.length ≤ b.length) : (patch b o l).length = b.length := by
  simp [patch]; omega
theorem patch_map (b l : Bs) (o dn : Nat) (h : l.length ≤ dn) : (b.map u8).take o ++ (l.take (min l.length dn)).map u8 ++ (b.map u8).drop (o + min l.length dn) = (patch b o l).map u8 := by
  rw [Nat.min_eq_left h, List.take_of_length_le (Nat.le_refl _)]
  simp [patch]
theorem patch_mapS (b l : Bs) (o : Nat) : (b.map u8).take o ++ l.map u8 ++ (b.map u8).drop (o + l.length) = (patch b o l).map u8 := by simp [patch]
theorem set_map (b : Bs) (i : Nat) (x : UInt8) : (b.map u8).set i (u8 x) = (b.set i x).map u8 := by rw [List.map_set]
theorem four {l : Bs} (h : l.length = 4) : ∃ a b c d, l = [a, b, c, d] := by
  match l, h with
  | [a, b, c, d], _ => exact ⟨a, b, c, d, rfl⟩
theorem three_length (a b c : UInt32) : (patch (patch (patch (List.replicate 128 0) 0 (put4 a)) 4 (put4 b)) 8 (put4 c)).length = 128 := by
  have h1 : (patch (List.replicate 128 0) 0 (put4 a)).length = 128 := by rw [patch_length] <;> simp [put4_length]
  have h2 : (patch (patch (List.replicate 128 0) 0 (put4 a)) 4 (put4 b)).length = 128 := by rw [patch_length _ _ _ (by rw [h1, put4_length]; omega), h1]
  rw [patch_length _ _ _ (by rw [h2, put4_length]; omega), h2]
theorem sector_made (p1 p2 p3 piece : Bs) (x y z : UInt8) (h1 : p1.length = 4) (h2 : p2.length = 4) (h3 : p3.length = 4) (hp : piece.length ≤ 112) :
    patch ((((patch (patch (patch (List.replicate 128 0) 0 p1) 4 p2) 8 p3).set 12 x).set 13 y).set 14 z) 16 piece = p1 ++ p2 ++ p3 ++ [x, y, z, 0] ++ piece ++ List.replicate (112 - piece.length) 0 := by
  obtain ⟨a1, b1, c1, d1, rfl⟩ := four h1
  obtain ⟨a2, b2, c2, d2, rfl⟩ := four h2
  obtain ⟨a3, b3, c3, d3, rfl⟩ := four h3
  have e : (((patch (patch (patch (List.replicate 128 0) 0 [a1, b1, c1, d1]) 4 [a2, b2, c2, d2]) 8 [a3, b3, c3, d3]).set 12 x).set 13 y).set 14 z = [a1, b1, c1, d1, a2, b2, c2, d2, a3, b3, c3, d3, x, y, z, 0] ++ List.replicate 112 0 := rfl
  have h : ∀ q : Bs, q.length = 16 → patch (q ++ List.replicate 112 0) 16 piece = q ++ piece ++ List.replicate (112 - piece.length) 0 := fun q hq => by
    unfold patch
    rw [List.take_left' hq, ← List.drop_drop, List.drop_left' hq, List.drop_replicate]
  rw [e, h _ rfl]
  rfl
end log
end Go.Proofs.YthliepcjfnjnoaaGreatDoor
namespace Go.Proofs.YthliepcjfnjnoaaGreatDoor
open Go
namespace log
def secAt (b : Bs) (i : Nat) : Bs := (b.drop (128 * i)).take 128
def cutOf (s : Bs) : Nat := min (s.getD 14 0).toNat 112
def textTo (b : Bs) (k : Nat) : Bs := (List.range k).flatMap (fun i => ((secAt b i).drop 16).take (cutOf (secAt b i)))
def openF (epoch prev : UInt32) (b : Bs) : Bs × UInt32 × Nat × Int :=
  if epoch = 0 then ([], 0, 0, 2) else if b.length < 128 then ([], 0, 0, 0)
  else if (b.getD 13 0).toNat = 0 ∨ b.length < (b.getD 13 0).toNat * 128 then ([], 0, 0, 0)
  else if (frameF epoch (get4 (b.drop 4)) prev (textTo b (b.getD 13 0).toNat)).2 = 0 ∧ (frameF epoch (get4 (b.drop 4)) prev (textTo b (b.getD 13 0).toNat)).1 = b.take ((b.getD 13 0).toNat * 128)
  then (textTo b (b.getD 13 0).toNat, get4 (b.drop 4), (b.getD 13 0).toNat, 0) else ([], 0, 0, 0)
theorem textTo_succ (b : Bs) (k : Nat) : textTo b (k + 1) = textTo b k ++ ((secAt b k).drop 16).take (cutOf (secAt b k)) := by
  unfold textTo
  rw [List.range_succ, List.flatMap_append]
  simp
theorem cutOf_le (s : Bs) : cutOf s ≤ 112 := Nat.min_le_right _ _
theorem textTo_length (b : Bs) : ∀ k, (textTo b k).length ≤ k * 112
  | 0 => by simp [textTo]
  | k + 1 => by
    have h := textTo_length b k
    have := cutOf_le (secAt b k)
    rw [textTo_succ, List.length_append, List.length_take]
    omega
theorem secAt_length {b : Bs} {i n : Nat} (hi : i < n) (hn : n * 128 ≤ b.length) : (secAt b i).length = 128 := by
  simp [secAt]
  omega
theorem secAt_eq {b : Bs} {i n : Nat} (hi : i < n) (hn : n * 128 ≤ b.length) : ((((b.take (n * 128)).take (n * 128)).drop (i * 128)).take 128).drop 0 = secAt b i := by
  rw [List.drop_zero, List.take_take, Nat.min_self, List.drop_take, List.take_take, secAt, Nat.mul_comm i 128, Nat.min_eq_left (by omega)]
theorem get4_eq {b : Bs} {n : Nat} (h1 : 1 ≤ n) : get4 (((b.take (n * 128)).take (n * 128)).drop 4) = get4 (b.drop 4) := by
  unfold get4
  rw [List.take_take, Nat.min_self, List.drop_take, List.take_take, Nat.min_eq_left (by omega)]
theorem secAt_frame (epoch salt prev : UInt32) (r : Bs) (n k i : Nat) (hi : i < k) : secAt (frameTo epoch salt prev r n k) i = sectorOf epoch salt prev r n i := by
  induction k with
  | zero => omega
  | succ k ih =>
    rw [frameTo_succ]
    have hl := frameTo_length epoch salt prev r n k
    have hs := sectorOf_length epoch salt prev r n k
    unfold secAt at *
    rcases Nat.lt_or_ge i k with h | h
    · rw [List.drop_append_of_le_length (by omega), List.take_append_of_le_length (by simp; omega)]
      exact ih h
    · obtain rfl : i = k := by omega
      rw [List.drop_append, List.drop_of_length_le (by omega), List.nil_append, show 128 * i - (frameTo epoch salt prev r n i).length = 0 by omega, List.drop_zero, List.take_of_length_le (by omega)]
end log
end Go.Proofs.YthliepcjfnjnoaaGreatDoor
namespace Go.Proofs.YthliepcjfnjnoaaGreatDoor
open Go disk
theorem Ext.thenS {S S' : Nat → Prop} {a b c : World} (h : Ext S a b) (k : Ext S' b c) (hs : ∀ i, S' i → i < b.heap.size → S i ∨ a.heap.size ≤ i) : Ext S a c :=
  ⟨k.os.trans h.os, k.tape.trans h.tape, k.output.trans h.output, Nat.le_trans h.size k.size, fun i hi hn =>
    (k.block i (Nat.lt_of_lt_of_le hi h.size) (fun hx => by rcases hs i hx (Nat.lt_of_lt_of_le hi h.size) with h1 | h1; exact hn h1; omega)).trans (h.block i hi hn)⟩
namespace log
theorem readF_length {d : Disk} (h : checkF d = 0) {n : Int} (h0 : 0 ≤ n) (hn : n < d.count) : (readF d n).length = 128 := by
  obtain ⟨k1, k2, k3, k4, k5⟩ := check_ok h
  unfold readF
  split
  · rename_i b hb
    unfold lastOf at hb
    rw [Option.map_eq_some_iff] at hb
    obtain ⟨p, hp, rfl⟩ := hb
    exact (k5 p (List.mem_reverse.1 (List.mem_of_find?_eq_some hp))).2.2
  · rw [List.length_take, List.length_drop]; omega
theorem asked_in {d : Disk} (h : checkF d = 0) {n : Int} (h0 : 0 ≤ n) (hn : n < d.count) : askedF d n = 0 := by
  unfold askedF
  rw [if_neg (by simp [h]), if_neg (by omega)]
def headN (d : Disk) : Nat := getTo ((readF d 16).take 8) 8
def headF (d : Disk) : UInt32 := if headN d ≤ 4294967295 ∧ (readF d 16).drop 8 = List.replicate 120 0 then UInt32.ofNat (headN d) else 0
def thereF (d : Disk) : Int := if ¬ checkF d = 0 then checkF d else if d.count < 80 then 50 else 0
theorem there_ok {d : Disk} (h : thereF d = 0) : checkF d = 0 ∧ 80 ≤ d.count := by
  unfold thereF at h
  split at h
  · exact absurd h (by assumption)
  · split at h
    · cases h
    · exact ⟨Decidable.byContradiction (by assumption), by omega⟩
def bodyTo (d : Disk) (k : Nat) : Bs := (List.range k).flatMap (fun i => readF d ((17 + i : Nat) : Int))
theorem bodyTo_succ (d : Disk) (k : Nat) : bodyTo d (k + 1) = bodyTo d k ++ readF d ((17 + k : Nat) : Int) := by
  unfold bodyTo
  rw [List.range_succ, List.flatMap_append]
  simp
theorem bodyTo_length {d : Disk} (h : checkF d = 0) (hc : 80 ≤ d.count) : ∀ {k : Nat}, k ≤ 63 → (bodyTo d k).length = k * 128
  | 0, _ => by simp [bodyTo]
  | k + 1, hk => by
    rw [bodyTo_succ, List.length_append, bodyTo_length h hc (by omega), readF_length h (by omega) (by omega)]
    omega
theorem open_fit (epoch prev : UInt32) (b : Bs) : (openF epoch prev b).2.2.1 * 128 ≤ b.length := by
  unfold openF
  split
  · simp
  · split
    · simp
    · split
      · simp
      · split
        · show (b.getD 13 0).toNat * 128 ≤ b.length
          omega
        · simp
theorem open_text (epoch prev : UInt32) (b : Bs) : (openF epoch prev b).1.length ≤ (openF epoch prev b).2.2.1 * 112 := by
  unfold openF
  split
  · simp
  · split
    · simp
    · split
      · simp
      · split
        · exact textTo_length b _
        · simp
def scan (epoch : UInt32) : Nat → UInt32 → Bs → List Bs × UInt32 × Nat
  | 0, last, _ => ([], last, 0)
  | f + 1, last, b =>
    if (openF epoch last b).2.2.1 = 0 then ([], last, 0)
    else ((openF epoch last b).1 :: (scan epoch f (openF epoch last b).2.1 (b.drop ((openF epoch last b).2.2.1 * 128))).1, (scan epoch f (openF epoch last b).2.1 (b.drop ((openF epoch last b).2.2.1 * 128))).2.1, (openF epoch last b).2.2.1 + (scan epoch f (openF epoch last b).2.1 (b.drop ((openF epoch last b).2.2.1 * 128))).2.2)
theorem scan_end {epoch : UInt32} {f : Nat} {last : UInt32} {b : Bs} (h : (openF epoch last b).2.2.1 = 0) : scan epoch f last b = ([], last, 0) := by
  cases f with
  | zero => rfl
  | succ f => rw [scan, if_pos h]
theorem scan_more {epoch : UInt32} {f : Nat} {last : UInt32} {b : Bs} (h : ¬ (openF epoch last b).2.2.1 = 0) : scan epoch (f + 1) last b = ((openF epoch last b).1 :: (scan epoch f (openF epoch last b).2.1 (b.drop ((openF epoch last b).2.2.1 * 128))).1, (scan epoch f (openF epoch last b).2.1 (b.drop ((openF epoch last b).2.2.1 * 128))).2.1, (openF epoch last b).2.2.1 + (scan epoch f (openF epoch last b).2.1 (b.drop ((openF epoch last b).2.2.1 * 128))).2.2) := by
  rw [scan, if_neg h]
theorem scan_fit (epoch : UInt32) : ∀ (f : Nat) (last : UInt32) (b : Bs), (scan epoch f last b).2.2 * 128 ≤ b.length ∧ (scan epoch f last b).1.length ≤ (scan epoch f last b).2.2
  | 0, last, b => by simp [scan]
  | f + 1, last, b => by
    by_cases h : (openF epoch last b).2.2.1 = 0
    · rw [scan_end h]; simp
    · rw [scan_more h]
      have h1 := open_fit epoch last b
      have h2 := scan_fit epoch f (openF epoch last b).2.1 (b.drop ((openF epoch last b).2.2.1 * 128))
      rw [List.length_drop] at h2
      simp only [List.length_cons]
      omega
theorem fu_ex : ∃ n : Nat, n = 63 := ⟨63, rfl⟩
noncomputable def fu : Nat := Classical.choose fu_ex
theorem fu_eq : fu = 63 := Classical.choose_spec fu_ex
noncomputable def scanD (d : Disk) : List Bs × UInt32 × Nat := scan (headF d) fu 0 (bodyTo d 63)
theorem scanD_eq (d : Disk) : scanD d = scan (headF d) fu 0 (bodyTo d 63) := rfl
theorem scanD_fit {d : Disk} (h3 : checkF d = 0) (h4 : 80 ≤ d.count) : (scanD d).2.2 ≤ 63 ∧ (scanD d).1.length ≤ (scanD d).2.2 := by
  have h5 := scan_fit (headF d) fu 0 (bodyTo d 63)
  rw [bodyTo_length h3 h4 (Nat.le_refl _), ← scanD_eq] at h5
  omega
def Tot (d : Disk) (rs : List Bs) (last : UInt32) (a : Nat) (rb : Bs) (f : Nat) : Prop :=
  (rs ++ (scan (headF d) f last rb).1, (scan (headF d) f last rb).2.1, a + (scan (headF d) f last rb).2.2) = scanD d
theorem Tot.start (d : Disk) : Tot d [] 0 0 (bodyTo d 63) fu := by
  unfold Tot
  rw [scanD_eq, List.nil_append, Nat.zero_add]
theorem Tot.done {d : Disk} {rs : List Bs} {last : UInt32} {a : Nat} {rb : Bs} {f : Nat} (h : Tot d rs last a rb f) (h0 : (openF (headF d) last rb).2.2.1 = 0) : scanD d = (rs, last, a) := by
  unfold Tot at h
  rw [scan_end h0] at h
  simp only [List.append_nil, Nat.add_zero] at h
  exact h.symm
theorem Tot.step {d : Disk} {rs : List Bs} {last : UInt32} {a : Nat} {rb : Bs} {f : Nat} (h : Tot d rs last a rb (f + 1)) (h0 : ¬ (openF (headF d) last rb).2.2.1 = 0) :
    Tot d (rs ++ [(openF (headF d) last rb).1]) (openF (headF d) last rb).2.1 (a + (openF (headF d) last rb).2.2.1) (rb.drop ((openF (headF d) last rb).2.2.1 * 128)) f := by
  unfold Tot at *
  rw [scan_more h0] at h
  rw [← h]
  simp only [List.append_assoc, List.singleton_append, Nat.add_assoc]
structure LogS where
  epoch : UInt32
  last : UInt32
  recs : List Bs
  at' : Nat
def noLog : LogS := ⟨0, 0, [], 0⟩
noncomputable def stateF (d : Disk) : LogS × Int :=
  if ¬ thereF d = 0 then (noLog, thereF d) else if headF d = 0 then (noLog, 50)
  else (⟨headF d, (scanD d).2.1, (scanD d).1, (scanD d).2.2⟩, 0)
theorem state_there {d : Disk} (h : ¬ thereF d = 0) : stateF d = (noLog, thereF d) := by unfold stateF; rw [if_pos h]
theorem state_head {d : Disk} (h : thereF d = 0) (h2 : headF d = 0) : stateF d = (noLog, 50) := by unfold stateF; rw [if_neg (fun hh => hh h), if_pos h2]
theorem state_good {d : Disk} (h : thereF d = 0) (h2 : ¬ headF d = 0) : stateF d = (⟨headF d, (scanD d).2.1, (scanD d).1, (scanD d).2.2⟩, 0) := by unfold stateF; rw [if_neg (fun hh => hh h), if_neg h2]
theorem state_ok {d : Disk} (h : (stateF d).2 = 0) : thereF d = 0 ∧ checkF d = 0 ∧ 80 ≤ d.count ∧ ¬ headF d = 0 ∧ (stateF d).1 = ⟨headF d, (scanD d).2.1, (scanD d).1, (scanD d).2.2⟩ ∧ (stateF d).1.at' ≤ 63 := by
  by_cases h1 : thereF d = 0
  · obtain ⟨h3, h4⟩ := there_ok h1
    by_cases h2 : headF d = 0
    · rw [state_head h1 h2] at h; cases h
    · rw [state_good h1 h2]
      exact ⟨h1, h3, h4, h2, rfl, (scanD_fit h3 h4).1⟩
  · rw [state_there h1] at h; exact absurd h h1
theorem state_at (d : Disk) : (stateF d).1.at' ≤ 63 ∧ (stateF d).1.recs.length ≤ (stateF d).1.at' := by
  by_cases h : (stateF d).2 = 0
  · obtain ⟨h1, h2, h3, h4, h5, h6⟩ := state_ok h
    refine ⟨h6, ?_⟩
    rw [h5]
    exact (scanD_fit h2 h3).2
  · by_cases h1 : thereF d = 0
    · by_cases h2 : headF d = 0
      · rw [state_head h1 h2]; exact ⟨Nat.zero_le _, Nat.le_refl _⟩
      · rw [state_good h1 h2] at h; exact absurd rfl h
    · rw [state_there h1]; exact ⟨Nat.zero_le _, Nat.le_refl _⟩
def saltStep (d : Disk) (epoch : UInt32) (i : Nat) (m : UInt32) : UInt32 :=
  if get4 (readF d ((17 + i : Nat) : Int)) = epoch then max (max m (get4 ((readF d ((17 + i : Nat) : Int)).drop 4))) (get4 ((readF d ((17 + i : Nat) : Int)).drop 8)) else m
def saltTo (d : Disk) (epoch : UInt32) (a : Nat) : Nat → UInt32
  | 0 => 0
  | k + 1 => saltStep d epoch (a + k) (saltTo d epoch a k)
def saltF (d : Disk) (epoch : UInt32) (a : Nat) : UInt32 := saltTo d epoch a (63 - a)
def actsTo (n : Nat) (b : Bs) (k : Nat) : List disk.Act := (List.range k).map (fun i => ⟨false, ⟨((n + i : Nat) : Int), (b.drop (i * 128)).take 128⟩⟩)
theorem actsTo_succ (n : Nat) (b : Bs) (k : Nat) : actsTo n b (k + 1) = actsTo n b k ++ [⟨false, ⟨((n + k : Nat) : Int), (b.drop (k * 128)).take 128⟩⟩] := by
  unfold actsTo
  rw [List.range_succ, List.map_append]
  rfl
theorem actsTo_length (n : Nat) (b : Bs) (k : Nat) : (actsTo n b k).length = k := by simp [actsTo]
noncomputable def addF (d : Disk) (r : Bs) : List disk.Act × Int :=
  if ¬ (stateF d).2 = 0 then ([], (stateF d).2) else if 4096 < r.length then ([], 3) else if 63 < (stateF d).1.at' + needs r.length then ([], 30)
  else if saltF d (stateF d).1.epoch (stateF d).1.at' = 4294967295 then ([], 30)
  else (actsTo (17 + (stateF d).1.at') (frameL (stateF d).1.epoch (saltF d (stateF d).1.epoch (stateF d).1.at' + 1) (stateF d).1.last r) (needs r.length), 0)
def epochTo (d : Disk) : Nat → UInt32
  | 0 => headF d
  | k + 1 => max (epochTo d k) (get4 (readF d ((17 + k : Nat) : Int)))
def clearB (e : UInt32) : Bs := put4 e ++ List.replicate 124 0
def clearF (d : Disk) : List disk.Act × Int :=
  if ¬ thereF d = 0 then ([], thereF d) else if epochTo d 63 = 4294967295 then ([], 30)
  else ([⟨false, ⟨16, clearB (epochTo d 63 + 1)⟩⟩, ⟨true, ⟨0, []⟩⟩], 0)
end log
end Go.Proofs.YthliepcjfnjnoaaGreatDoor
namespace Go.Proofs.YthliepcjfnjnoaaGreatDoor
open Go log
theorem logput_fn {w : World} {n : UInt32} : Fn Tryz.prog 53 [u32 n] w (fun r w2 => tBytes.rep (fun k => w.heap.size ≤ k) w2 r (put4 n) ∧ Ext (fun _ => False) w w2) := by
  refine Fn.enter (fun w => Tryz.call53 _ w) Tryz.func53 rfl ?_
  refine .seq (.region ?_)
  refine .p rfl rfl (.as rfl) ?_
  refine .nil (.code (.seq (.keep [(0, _)] ⟨rfl, trivial⟩ (.region ?_))))
  refine .p rfl rfl (.mv rfl) ?_
  refine .p rfl rfl (.conv32_U rfl rfl rfl) ?_
  refine .call (first := []) (captured := []) rfl rfl rfl rfl (Put_fn (by have := n.toNat_lt; omega)) ?_
  rintro _ w5 ⟨R5, X5⟩
  obtain ⟨a5, cap5, rfl, hc5⟩ := Sl.val R5
  have h8 : (put8 n.toNat).length = 8 := put8_length _
  rw [h8] at R5 hc5 ⊢
  have R6 := Sl.cut R5 0 4 (by omega) (by omega)
  refine .p rfl rfl (.cutHi (s := 1) rfl rfl rfl rfl (by omega)) ?_
  refine .p rfl rfl (.as rfl) ?_
  refine .nil (.code ?_)
  refine .ret _ rfl ?_
  exact ⟨R6, X5⟩
theorem sectors_fn {w : World} {n : Nat} (hn : n < Lim) : Fn Tryz.prog 84 [i64 n] w (fun r w2 => r = i64 (needs n) ∧ Same w w2) := by
  simp only [Lim] at hn
  refine Fn.enter (fun w => Tryz.call84 _ w) Tryz.func84 rfl ?_
  refine .seq (.region ?_)
  refine .p rfl rfl (.as rfl) ?_
  refine .nil (.code (.seq (.keep [(0, _)] ⟨rfl, trivial⟩ (.region ?_))))
  refine .p rfl rfl (.mv rfl) ?_
  refine .p rfl rfl (.add rfl rfl (by omega)) ?_
  refine .p rfl rfl (.sub rfl rfl (by omega)) ?_
  refine .p rfl rfl (.quo rfl rfl (by omega)) ?_
  refine .p rfl rfl (.max2 rfl rfl) ?_
  refine .p rfl rfl (.as rfl) ?_
  refine .nil (.code ?_)
  refine .ret _ rfl ?_
  exact ⟨by show Value.int .i64 _ = Value.int .i64 _; congr 1; unfold needs; omega, .refl w⟩
theorem logget_fn {w : World} {v : Value} {l : Bs} (h : tBytes.rep All w v l) (hl : 4 ≤ l.length) : Fn Tryz.prog 51 [v] w (fun r w2 => r = u32 (get4 l) ∧ Ext (fun _ => False) w w2) := by
  obtain ⟨a, cap, rfl, hcap⟩ := Sl.val h
  refine Fn.enter (fun w => Tryz.call51 _ w) Tryz.func51 rfl ?_
  refine .seq (.region ?_)
  refine .p rfl rfl (.as rfl) ?_
  refine .nil (.code (.seq (.keep [(0, _)] ⟨rfl, trivial⟩ (.region ?_))))
  refine .v rfl rfl (.lits rfl rfl (fun _ => by kernel_rfl)) ?_
  rintro _ w6 ⟨rfl, N6⟩
  have R8 := Sl.cut (Ty.ext0 _ h N6.ext) 0 4 (by omega) (by omega)
  refine .p rfl rfl (.mv rfl) ?_
  refine .p rfl rfl (.cutHi (s := 1) rfl rfl rfl rfl (by omega)) ?_
  refine .v rfl rfl (.append (t := tByte) (Q := fun _ => False) (eb := 1) rfl (Own.ofNew (us := []) N6 .nil (by decide) rfl rfl) rfl (Sl.holds R8 (fun _ _ h => h)) rfl rfl rfl rfl rfl rfl rfl (by simp; omega) (by simp [Lim]; omega) (fun _ h _ => h.elim)) ?_
  rintro v9 w9 ⟨b9, O9, X9, hb9⟩
  have Z9 := N6.ext.then X9 (by rintro k rfl _; omega)
  refine .v rfl rfl (.lits rfl rfl (fun _ => by kernel_rfl)) ?_
  rintro _ w10 ⟨rfl, N10⟩
  refine .v rfl rfl (.append (t := tByte) (eb := 1) rfl (O9.ext0 N10.ext) rfl (.inr (New.holds (us := [u8 0, u8 0, u8 0, u8 0]) (xs := [0, 0, 0, 0]) N10 (each_u8 [0, 0, 0, 0]) rfl)) rfl rfl rfl rfl rfl rfl rfl (by simp; omega) (by simp [Lim]; omega) (fun _ h _ => h.1.elim)) ?_
  rintro v11 w11 ⟨b11, O11, X11, hb11⟩
  have R11 : tBytes.rep All w11 v11 (l.take 4 ++ [0, 0, 0, 0]) := O11.rep trivial (fun _ _ _ => trivial)
  have Z11 := (Z9.trans N10.ext).then X11 (by rintro k rfl _; have := N6.size; omega)
  refine .call (first := []) (captured := []) rfl rfl rfl rfl (Get_fn R11) ?_
  rintro _ w12 ⟨rfl, X12⟩
  rw [if_pos (by simp; omega), if_pos (by simp; omega)]
  refine .p rfl rfl (.mv rfl) ?_
  refine .p rfl rfl (.extract rfl rfl) ?_
  refine .p rfl rfl (.extract rfl rfl) ?_
  refine .p rfl rfl (.as rfl) ?_
  refine .p rfl rfl (.as rfl) ?_
  refine .nil (.code (.seq (.keep [(3, _)] ⟨rfl, trivial⟩ (.region ?_))))
  refine .p rfl rfl (.mv rfl) ?_
  refine .p rfl rfl (.convW rfl rfl rfl (by omega)) ?_
  refine .p rfl rfl (.as rfl) ?_
  refine .nil (.code ?_)
  refine .ret _ rfl ?_
  exact ⟨rfl, Z11.trans X12⟩
theorem u32_zero (x : UInt32) : ((x.toNat : Int) = 0) ↔ x = 0 := by
  rw [← UInt32.toNat_inj]
  show _ ↔ x.toNat = 0
  omega
theorem piece_eq (r : Bs) (i : Nat) : (r.drop ((i : Int) * 112).toNat).take (min (((r.drop ((i : Int) * 112).toNat).length : Nat) : Int) 112).toNat = pieceOf r i := by
  have h1 : ((i : Int) * 112).toNat = 112 * i := by omega
  rw [h1, pieceOf]
  generalize r.drop (112 * i) = q
  rcases Nat.le_total q.length 112 with h | h
  · rw [List.take_of_length_le (by omega), List.take_of_length_le h]
  · congr 1
    omega
theorem Frame_fn {w : World} {epoch salt prev : UInt32} {r : Bs} (hr : r.length < Lim) : Fn Tryz.prog 85 [u32 epoch, u32 salt, u32 prev, str r] w (fun v w2 => ∃ s, v = .tuple #[s, i64 (frameF epoch salt prev r).2] ∧ tBytes.rep (fun k => w.heap.size ≤ k) w2 s (frameF epoch salt prev r).1 ∧ Ext (fun _ => False) w w2) := by
  refine Fn.enter (fun w => Tryz.call85 _ w) Tryz.func85 rfl ?_
  refine .seq (.region ?_)
  refine .p rfl rfl (.as rfl) ?_
  refine .p rfl rfl (.as rfl) ?_
  refine .nil (.code (.seq (.block (.seq (.block (.seq (.block (.block (.seq (.seq (.seq (.keep [(0, _), (1, _), (2, _), (3, _)] ⟨rfl, rfl, rfl, rfl, trivial⟩ (.region ?_)))))))))))))
  refine .p rfl rfl (.mv rfl) ?_
  refine .p rfl rfl (.eq rfl rfl) ?_
  refine .p rfl rfl (.as rfl) ?_
  refine .nil (.code (.keep [(15, _), (0, _), (1, _), (2, _), (3, _)] ⟨rfl, rfl, rfl, rfl, rfl, trivial⟩ ?_))
  refine .condD rfl (fun c15 => ?_) (fun c15 => ?_)
  · refine .exit rfl (.blk (.code (.seq (.seq (.keep [] trivial (.region ?_))))))
    refine .p rfl rfl (.as rfl) ?_
    refine .p rfl rfl (.as rfl) ?_
    refine .nil (.code ?_)
    refine .ret _ rfl ?_
    have e : frameF epoch salt prev r = ([], 2) := by unfold frameF; rw [if_pos (.inl ((u32_zero _).1 c15))]
    rw [e]
    exact ⟨_, rfl, Sl.nil, .refl _⟩
  · refine .skip (.code (.seq (.seq (.keep [(0, _), (1, _), (2, _), (3, _)] ⟨rfl, rfl, rfl, rfl, trivial⟩ (.region ?_)))))
    refine .p rfl rfl (.mv rfl) ?_
    refine .p rfl rfl (.eq rfl rfl) ?_
    refine .p rfl rfl (.as rfl) ?_
    refine .nil (.code (.keep [(18, _), (0, _), (1, _), (2, _), (3, _)] ⟨rfl, rfl, rfl, rfl, rfl, trivial⟩ ?_))
    refine .condD rfl (fun c18 => ?_) (fun c18 => ?_)
    · refine .exit rfl (.code (.seq (.seq (.keep [] trivial (.region ?_)))))
      refine .p rfl rfl (.as rfl) ?_
      refine .p rfl rfl (.as rfl) ?_
      refine .nil (.code ?_)
      refine .ret _ rfl ?_
      have e : frameF epoch salt prev r = ([], 2) := by unfold frameF; rw [if_pos (.inr ((u32_zero _).1 c18))]
      rw [e]
      exact ⟨_, rfl, Sl.nil, .refl _⟩
    · refine .skip (.code (.seq (.keep [(0, _), (1, _), (2, _), (3, _)] ⟨rfl, rfl, rfl, rfl, trivial⟩ (.region ?_))))
      refine .p rfl rfl (.mv rfl) ?_
      refine .p rfl rfl (.lenS rfl rfl) ?_
      refine .p rfl rfl (.gt rfl rfl) ?_
      refine .p rfl rfl (.as rfl) ?_
      refine .nil (.code (.keep [(21, _), (0, _), (1, _), (2, _), (3, _)] ⟨rfl, rfl, rfl, rfl, rfl, trivial⟩ ?_))
      refine .condD rfl (fun c21 => ?_) (fun c21 => ?_)
      · refine .exit rfl (.code (.seq (.seq (.keep [] trivial (.region ?_)))))
        refine .p rfl rfl (.as rfl) ?_
        refine .p rfl rfl (.as rfl) ?_
        refine .nil (.code ?_)
        refine .ret _ rfl ?_
        have e : frameF epoch salt prev r = ([], 3) := by unfold frameF; rw [if_neg (by rw [← u32_zero, ← u32_zero]; omega), if_pos (by omega)]
        rw [e]
        exact ⟨_, rfl, Sl.nil, .refl _⟩
      · refine .skip (.code (.exit rfl (.code (.seq (.keep [(0, _), (1, _), (2, _), (3, _)] ⟨rfl, rfl, rfl, rfl, trivial⟩ (.region ?_))))))
        refine .p rfl rfl (.mv rfl) ?_
        refine .p rfl rfl (.lenS rfl rfl) ?_
        refine .call (first := []) (captured := []) rfl rfl rfl rfl (sectors_fn hr) ?_
        rintro _ w27 ⟨rfl, S27⟩
        have hnb := needs_bd (n := r.length) (by omega)
        refine .p rfl rfl (.as rfl) ?_
        refine .nil (.code (.seq (.keep [(10, _), (0, _), (1, _), (2, _), (3, _)] ⟨rfl, rfl, rfl, rfl, rfl, trivial⟩ (.region ?_))))
        refine .p rfl rfl (.mv rfl) ?_
        refine .p rfl rfl (.mul rfl rfl (by omega)) ?_
        refine .v rfl rfl (.makeCap (eb := 1) rfl rfl rfl rfl rfl rfl rfl rfl (by omega)) ?_
        rintro _ w30 ⟨rfl, N30⟩
        refine .p rfl rfl (.as rfl) ?_
        refine .nil (.code (.seq (.seq (.keep [(11, _), (10, _), (0, _), (1, _), (2, _), (3, _)] ⟨rfl, rfl, rfl, rfl, rfl, rfl, trivial⟩ (.region ?_)))))
        refine .p rfl rfl (.mv rfl) ?_
        refine .p rfl rfl (.mv rfl) ?_
        refine .nil (.code (.block ?_))
        refine .loop (S := Nat × World × Value × Nat) (fun s => [(32, i64 s.1), (31, i64 (needs r.length)), (10, i64 (needs r.length)), (11, s.2.2.1), (0, u32 epoch), (1, u32 salt), (2, u32 prev), (3, str r)]) (fun s => s.2.1) (fun s => s.1 ≤ needs r.length ∧ Own tByte (fun _ => False) 5 s.2.1 s.2.2.1 (frameTo epoch salt prev r (needs r.length) s.1) s.2.2.2 ∧ Ext (fun _ => False) w s.2.1 ∧ w.heap.size ≤ s.2.2.2 ∧ s.2.2.2 < s.2.1.heap.size) (fun s => needs r.length - s.1) (0, w30, _, w27.heap.size) ⟨rfl, rfl, rfl, rfl, rfl, rfl, rfl, rfl, trivial⟩ rfl ⟨Nat.zero_le _, Own.ofMake N30 rfl, (Ext.same S27).trans N30.ext, by show w.heap.size ≤ w27.heap.size; rw [S27.heap]; omega, by show w27.heap.size < w30.heap.size; have := N30.size; omega⟩ ?_
        rintro ⟨i, wi, vo, bo⟩ J ⟨hi, hO, hX, hbo, hbw⟩ again
        simp only at hi hO hX hbo hbw
        refine .seq (.region ?_)
        refine .p rfl rfl (.lt rfl rfl) ?_
        refine .nil (.code (.seq ?_))
        refine .condD rfl (fun c33 => ?_) (fun c33 => ?_)
        · have hfit := needs_fit (n := r.length) (i := i) (by omega)
          have hi37 : i < 37 := by omega
          refine .skip (.code (.seq (.block (.seq (.keep [(32, _), (31, _), (10, _), (11, _), (0, _), (1, _), (2, _), (3, _)] ⟨rfl, rfl, rfl, rfl, rfl, rfl, rfl, rfl, trivial⟩ (.region ?_))))))
          refine .p rfl rfl (.mv rfl) ?_
          refine .p rfl rfl (.as rfl) ?_
          refine .nil (.code (.seq (.keep [(12, _), (32, _), (31, _), (10, _), (11, _), (0, _), (1, _), (2, _), (3, _)] ⟨rfl, rfl, rfl, rfl, rfl, rfl, rfl, rfl, rfl, trivial⟩ (.region ?_))))
          refine .p rfl rfl (.mv rfl) ?_
          refine .p rfl rfl (.mv rfl) ?_
          refine .p rfl rfl (.mul rfl rfl (by omega)) ?_
          refine .p rfl rfl (.cutSLo rfl rfl rfl (by omega)) ?_
          refine .p rfl rfl (.as rfl) ?_
          refine .nil (.code (.seq (.keep [(13, _), (12, _), (32, _), (31, _), (10, _), (11, _), (0, _), (1, _), (2, _), (3, _)] ⟨rfl, rfl, rfl, rfl, rfl, rfl, rfl, rfl, rfl, rfl, trivial⟩ (.region ?_))))
          refine .p rfl rfl (.mv rfl) ?_
          refine .p rfl rfl (.mv rfl) ?_
          refine .p rfl rfl (.lenS rfl rfl) ?_
          refine .p rfl rfl (.min2 rfl rfl) ?_
          refine .p rfl rfl (.cast (.cutSHi rfl rfl rfl (by simp only [List.length_drop]; omega)) (by show str _ = str (pieceOf r i); rw [← piece_eq])) ?_
          refine .p rfl rfl (.as rfl) ?_
          refine .nil (.code (.seq (.keep [(13, _), (12, _), (32, _), (31, _), (10, _), (11, _), (0, _), (1, _), (2, _), (3, _)] ⟨rfl, rfl, rfl, rfl, rfl, rfl, rfl, rfl, rfl, rfl, trivial⟩ (.region ?_))))
          refine .v rfl rfl (.make (eb := 1) rfl rfl rfl rfl rfl rfl rfl rfl (by omega)) ?_
          rintro _ w44 ⟨rfl, N44⟩
          have B44 : Blk w44 wi.heap.size 5 ((List.replicate 128 0).map u8) := by rw [List.map_replicate]; exact N44.blk
          have Y44 := N44.ext
          refine .p rfl rfl (.as rfl) ?_
          refine .nil (.code (.seq (.keep [(14, _), (13, _), (12, _), (32, _), (31, _), (10, _), (11, _), (0, _), (1, _), (2, _), (3, _)] ⟨rfl, rfl, rfl, rfl, rfl, rfl, rfl, rfl, rfl, rfl, rfl, trivial⟩ (.region ?_))))
          refine .p rfl rfl (.mv rfl) ?_
          refine .p rfl rfl (.mv rfl) ?_
          refine .call (first := []) (captured := []) rfl rfl rfl rfl (logput_fn) ?_
          rintro r47 w47 ⟨R47, X47⟩
          have B47 := B44.ext X47 (fun x => x)
          have Y47 := Y44.trans X47
          refine .v rfl rfl (.copyB (c := wi.heap.size) (o := 0) (dn := 128) (dc := 128) rfl B47 rfl R47 rfl rfl (by simp [patch_length, put4_length])) ?_
          rintro _ w48 ⟨rfl, P48⟩
          have B48 : Blk w48 wi.heap.size 5 ((patch (List.replicate 128 0) 0 (put4 epoch)).map u8) := by rw [← patch_map _ _ _ 128 (by rw [put4_length]; omega)]; exact P48.blk
          have Y48 := Y47.then P48.ext (by rintro k rfl _; exact Nat.le_refl _)
          refine .nil (.code (.seq (.keep [(14, _), (13, _), (12, _), (32, _), (31, _), (10, _), (11, _), (0, _), (1, _), (2, _), (3, _)] ⟨rfl, rfl, rfl, rfl, rfl, rfl, rfl, rfl, rfl, rfl, rfl, trivial⟩ (.mix ((· = wi.heap.size)) [3, 4] (by kernel_rfl) (by kernel_rfl) (by kernel_rfl) ?_))))
          refine .p rfl rfl rfl (fun wx hx => .mv rfl) ?_
          refine .p rfl rfl rfl (fun wx hx => .cutLo (s := 1) rfl rfl rfl rfl (by omega)) ?_
          refine .p rfl rfl rfl (fun wx hx => .mv rfl) ?_
          refine .call (first := []) (captured := []) rfl rfl rfl rfl rfl (logput_fn) (by rintro _ _ ⟨_, hx⟩; exact hx.mono (fun _ _ h => h.elim)) ?_
          rintro r52 w52 ⟨R52, X52⟩
          have B52 := B48.ext X52 (fun x => x)
          have Y52 := Y48.trans X52
          refine .v rfl rfl rfl (.copyB (c := wi.heap.size) (o := 4) (dn := 124) (dc := 124) rfl B52 rfl R52 rfl rfl (by simp [patch_length, put4_length])) (by rintro _ _ ⟨_, hP⟩; exact (X52.mono (fun _ _ h => h.elim)).trans hP.ext) ?_
          rintro _ w53 ⟨rfl, P53⟩
          have B53 : Blk w53 wi.heap.size 5 ((patch (patch (List.replicate 128 0) 0 (put4 epoch)) 4 (put4 salt)).map u8) := by rw [← patch_map _ _ _ 124 (by rw [put4_length]; omega)]; exact P53.blk
          have Y53 := Y52.then P53.ext (by rintro k rfl _; exact Nat.le_refl _)
          refine .nil (.code (.seq (.keep [(14, _), (13, _), (12, _), (32, _), (31, _), (10, _), (11, _), (0, _), (1, _), (2, _), (3, _)] ⟨rfl, rfl, rfl, rfl, rfl, rfl, rfl, rfl, rfl, rfl, rfl, trivial⟩ (.mix ((· = wi.heap.size)) [3, 4] (by kernel_rfl) (by kernel_rfl) (by kernel_rfl) ?_))))
          refine .p rfl rfl rfl (fun wx hx => .mv rfl) ?_
          refine .p rfl rfl rfl (fun wx hx => .cutLo (s := 1) rfl rfl rfl rfl (by omega)) ?_
          refine .p rfl rfl rfl (fun wx hx => .mv rfl) ?_
          refine .call (first := []) (captured := []) rfl rfl rfl rfl rfl (logput_fn) (by rintro _ _ ⟨_, hx⟩; exact hx.mono (fun _ _ h => h.elim)) ?_
          rintro r57 w57 ⟨R57, X57⟩
          have B57 := B53.ext X57 (fun x => x)
          have Y57 := Y53.trans X57
          refine .v rfl rfl rfl (.copyB (c := wi.heap.size) (o := 8) (dn := 120) (dc := 120) rfl B57 rfl R57 rfl rfl (by simp [patch_length, put4_length])) (by rintro _ _ ⟨_, hP⟩; exact (X57.mono (fun _ _ h => h.elim)).trans hP.ext) ?_
          rintro _ w58 ⟨rfl, P58⟩
          have B58 : Blk w58 wi.heap.size 5 ((patch (patch (patch (List.replicate 128 0) 0 (put4 epoch)) 4 (put4 salt)) 8 (put4 prev)).map u8) := by rw [← patch_map _ _ _ 120 (by rw [put4_length]; omega)]; exact P58.blk
          have Y58 := Y57.then P58.ext (by rintro k rfl _; exact Nat.le_refl _)
          refine .nil (.code (.seq (.keep [(14, _), (13, _), (12, _), (32, _), (31, _), (10, _), (11, _), (0, _), (1, _), (2, _), (3, _)] ⟨rfl, rfl, rfl, rfl, rfl, rfl, rfl, rfl, rfl, rfl, rfl, trivial⟩ (.region ?_))))
          refine .p rfl rfl (.mv rfl) ?_
          refine .p rfl rfl (.mv rfl) ?_
          refine .p rfl rfl (.mv rfl) ?_
          refine .p rfl rfl (.mv rfl) ?_
          refine .p rfl rfl (.convB rfl rfl rfl (by omega)) ?_
          refine .p rfl rfl (.mv rfl) ?_
          refine .p rfl rfl (.convB rfl rfl rfl (by omega)) ?_
          refine .p rfl rfl (.mv rfl) ?_
          refine .p rfl rfl (.lenS rfl rfl) ?_
          refine .p rfl rfl (.convB rfl rfl rfl (by omega)) ?_
          refine .p rfl rfl (.indexAddr0 rfl rfl rfl rfl (by omega)) ?_
          refine .s rfl (.store rfl rfl rfl rfl rfl B58 (by rw [List.length_map, three_length]; decide)) ?_
          intro w69 P69
          have B69 : Blk w69 wi.heap.size 5 (((patch (patch (patch (List.replicate 128 0) 0 (put4 epoch)) 4 (put4 salt)) 8 (put4 prev)).set 12 (UInt8.ofNat i)).map u8) := by rw [← set_map]; exact P69.blk
          have Y69 := Y58.then P69.ext (by rintro k rfl _; exact Nat.le_refl _)
          refine .p rfl rfl (.indexAddr0 rfl rfl rfl rfl (by omega)) ?_
          refine .s rfl (.store rfl rfl rfl rfl rfl B69 (by rw [List.length_map, List.length_set, three_length]; decide)) ?_
          intro w70 P70
          have B70 : Blk w70 wi.heap.size 5 ((((patch (patch (patch (List.replicate 128 0) 0 (put4 epoch)) 4 (put4 salt)) 8 (put4 prev)).set 12 (UInt8.ofNat i)).set 13 (UInt8.ofNat (needs r.length))).map u8) := by rw [← set_map]; exact P70.blk
          have Y70 := Y69.then P70.ext (by rintro k rfl _; exact Nat.le_refl _)
          refine .p rfl rfl (.indexAddr0 rfl rfl rfl rfl (by omega)) ?_
          refine .s rfl (.store rfl rfl rfl rfl rfl B70 (by rw [List.length_map, List.length_set, List.length_set, three_length]; decide)) ?_
          intro w71 P71
          have B71 : Blk w71 wi.heap.size 5 (((((patch (patch (patch (List.replicate 128 0) 0 (put4 epoch)) 4 (put4 salt)) 8 (put4 prev)).set 12 (UInt8.ofNat i)).set 13 (UInt8.ofNat (needs r.length))).set 14 (UInt8.ofNat (pieceOf r i).length)).map u8) := by rw [← set_map]; exact P71.blk
          have Y71 := Y70.then P71.ext (by rintro k rfl _; exact Nat.le_refl _)
          refine .nil (.code (.seq (.keep [(14, _), (13, _), (32, _), (31, _), (10, _), (11, _), (0, _), (1, _), (2, _), (3, _)] ⟨rfl, rfl, rfl, rfl, rfl, rfl, rfl, rfl, rfl, rfl, trivial⟩ (.region ?_))))
          refine .p rfl rfl (.mv rfl) ?_
          refine .p rfl rfl (.cutLo (s := 1) rfl rfl rfl rfl (by omega)) ?_
          refine .p rfl rfl (.mv rfl) ?_
          refine .v rfl rfl (.copyS (c := wi.heap.size) (o := 16) (dn := 112) (dc := 112) rfl B71 rfl rfl rfl (piece_le r i) (by have := piece_le r i; simp only [List.length_map, List.length_set, three_length]; omega)) ?_
          rintro _ w75 ⟨rfl, P75⟩
          have B75 : Blk w75 wi.heap.size 5 ((sectorOf epoch salt prev r (needs r.length) i).map u8) := by
            rw [sectorOf, ← sector_made _ _ _ _ _ _ _ (put4_length _) (put4_length _) (put4_length _) (piece_le r i), ← patch_mapS]
            exact P75.blk
          have Y75 := Y71.then P75.ext (by rintro k rfl _; exact Nat.le_refl _)
          have hsl := sectorOf_length epoch salt prev r (needs r.length) i
          have R75 : tBytes.rep All w75 (.slice (some ⟨wi.heap.size, 0, none⟩) 128 128) (sectorOf epoch salt prev r (needs r.length) i) := Sl.mkBytesB B75 (by rw [List.take_of_length_le (by simp)]) trivial (by omega) (by simp only [Lim]; omega) hsl.symm
          refine .nil (.code (.keep [(14, _), (32, _), (31, _), (10, _), (11, _), (0, _), (1, _), (2, _), (3, _)] ⟨rfl, rfl, rfl, rfl, rfl, rfl, rfl, rfl, rfl, trivial⟩ (.region ?_)))
          refine .p rfl rfl (.mv rfl) ?_
          refine .p rfl rfl (.mv rfl) ?_
          refine .v rfl rfl (.append (t := tByte) (eb := 1) rfl (hO.ext0 Y75) rfl (Sl.holds R75 (fun _ _ h => h)) rfl rfl rfl rfl rfl rfl rfl (by rw [frameTo_length, hsl]; omega) (by rw [frameTo_length, hsl]; simp only [Lim]; omega) (fun _ h _ => h.elim)) ?_
          rintro v78 w78 ⟨b78, O78, X78, hb78⟩
          have O78 := O78.mono (Q' := fun _ => False) (fun _ h _ => h.1)
          refine .p rfl rfl (.as rfl) ?_
          refine .nil (.blk (.code (.keep [(11, _), (32, _), (31, _), (10, _), (0, _), (1, _), (2, _), (3, _)] ⟨rfl, rfl, rfl, rfl, rfl, rfl, rfl, rfl, trivial⟩ (.region ?_))))
          refine .p rfl rfl (.add rfl rfl (by omega)) ?_
          refine .p rfl rfl (.mv rfl) ?_
          refine .nil ?_
          have hX78 := (hX.trans Y75).then X78 (by rintro k rfl _; exact hbo)
          refine (again (i + 1, w78, v78, b78) ⟨by show i + 1 ≤ _; omega, ?_, hX78, ?_, ?_⟩ (by show _ - (i + 1) < _ - i; omega)).of ⟨rfl, rfl, rfl, rfl, rfl, rfl, rfl, rfl, trivial⟩
          · show Own tByte _ _ w78 v78 _ b78
            rw [frameTo_succ]
            exact O78
          · show w.heap.size ≤ b78
            have := (hX.trans Y75).size
            omega
          · exact O78.lt (fun e => by have := congrArg List.length e; rw [List.length_append, hsl] at this; simp at this)
        · refine .exit rfl (.code (.seq (.keep [(11, _)] ⟨rfl, trivial⟩ (.region ?_))))
          refine .p rfl rfl (.mv rfl) ?_
          refine .p rfl rfl (.as rfl) ?_
          refine .p rfl rfl (.as rfl) ?_
          refine .nil (.code ?_)
          refine .ret _ rfl ?_
          have e : frameF epoch salt prev r = (frameL epoch salt prev r, 0) := by unfold frameF; rw [if_neg (by rw [← u32_zero, ← u32_zero]; omega), if_neg (by omega)]
          rw [e]
          obtain rfl : i = needs r.length := by omega
          exact ⟨_, rfl, hO.rep hbo (fun _ h _ => h.elim), hX⟩
end Go.Proofs.YthliepcjfnjnoaaGreatDoor
namespace Go.Proofs.YthliepcjfnjnoaaGreatDoor
open Go log
theorem Open_fn {w : World} {v : Value} {epoch prev : UInt32} {b : Bs} (h : tBytes.rep All w v b) : Fn Tryz.prog 122 [u32 epoch, u32 prev, v] w (fun r w2 => r = .tuple #[str (openF epoch prev b).1, u32 (openF epoch prev b).2.1, i64 (openF epoch prev b).2.2.1, i64 (openF epoch prev b).2.2.2] ∧ Ext (fun _ => False) w w2) := by
  obtain ⟨a, cap, rfl, hcap⟩ := Sl.val h
  have hlim := Sl.lim h
  simp only [Lim] at hlim
  refine Fn.enter (fun w => Tryz.call122 _ w) Tryz.func122 rfl ?_
  refine .seq (.region ?_)
  refine .p rfl rfl (.as rfl) ?_
  refine .p rfl rfl (.as rfl) ?_
  refine .p rfl rfl (.as rfl) ?_
  refine .p rfl rfl (.as rfl) ?_
  refine .nil (.code (.seq (.seq (.keep [(0, _), (1, _), (2, _)] ⟨rfl, rfl, rfl, trivial⟩ (.region ?_)))))
  refine .p rfl rfl (.mv rfl) ?_
  refine .p rfl rfl (.eq rfl rfl) ?_
  refine .nil (.code (.keep [(16, _), (0, _), (1, _), (2, _)] ⟨rfl, rfl, rfl, rfl, trivial⟩ ?_))
  refine .condD rfl (fun c16 => ?_) (fun c16 => ?_)
  · refine .seq (.keep [] trivial (.region ?_))
    refine .p rfl rfl (.as rfl) ?_
    refine .p rfl rfl (.as rfl) ?_
    refine .p rfl rfl (.as rfl) ?_
    refine .p rfl rfl (.as rfl) ?_
    refine .nil (.code ?_)
    refine .ret _ rfl ?_
    have e : openF epoch prev b = ([], 0, 0, 2) := by unfold openF; rw [if_pos ((u32_zero _).1 c16)]
    rw [e]
    exact ⟨rfl, .refl _⟩
  · refine .skip (.code (.seq (.seq (.keep [(0, _), (1, _), (2, _)] ⟨rfl, rfl, rfl, trivial⟩ (.region ?_)))))
    refine .p rfl rfl (.mv rfl) ?_
    refine .p rfl rfl (.len rfl rfl) ?_
    refine .p rfl rfl (.lt rfl rfl) ?_
    refine .nil (.code (.keep [(19, _), (0, _), (1, _), (2, _)] ⟨rfl, rfl, rfl, rfl, trivial⟩ ?_))
    refine .condD rfl (fun c19 => ?_) (fun c19 => ?_)
    · refine .seq (.keep [] trivial (.region ?_))
      refine .p rfl rfl (.as rfl) ?_
      refine .p rfl rfl (.as rfl) ?_
      refine .p rfl rfl (.as rfl) ?_
      refine .p rfl rfl (.as rfl) ?_
      refine .nil (.code ?_)
      refine .ret _ rfl ?_
      have e : openF epoch prev b = ([], 0, 0, 0) := by unfold openF; rw [if_neg (fun e => c16 ((u32_zero _).2 e)), if_pos (by omega)]
      rw [e]
      exact ⟨rfl, .refl _⟩
    · have hE : ¬ epoch = 0 := fun e => c16 ((u32_zero _).2 e)
      have hL : ¬ b.length < 128 := by omega
      obtain ⟨b13, o13, rfl, _, hc13⟩ := Sl.byteAt h (k := 13) (by omega)
      obtain ⟨n, hn⟩ : ∃ n, n = b[13].toNat := ⟨_, rfl⟩
      have h13 : (b.getD 13 0).toNat = n := by rw [hn, List.getD, List.getElem?_eq_getElem (by omega)]; rfl
      have hn256 : n < 256 := by have := b[13].toNat_lt; omega
      refine .skip (.code (.seq (.keep [(0, _), (1, _), (2, _)] ⟨rfl, rfl, rfl, trivial⟩ (.region ?_))))
      refine .p rfl rfl (.mv rfl) ?_
      refine .p rfl rfl (.indexAddr1 rfl rfl rfl rfl (by omega)) ?_
      refine .p rfl rfl (.load rfl rfl rfl hc13) ?_
      refine .p rfl rfl (.cast (.conv8_i rfl rfl rfl) (by show i64 (b[13].toNat : Int) = i64 (n : Int); rw [hn])) ?_
      refine .p rfl rfl (.as rfl) ?_
      refine .nil (.code (.seq (.seq (.keep [(10, _), (0, _), (1, _), (2, _)] ⟨rfl, rfl, rfl, rfl, trivial⟩ (.region ?_)))))
      refine .p rfl rfl (.mv rfl) ?_
      refine .p rfl rfl (.eq rfl rfl) ?_
      refine .p rfl rfl (.mv rfl) ?_
      refine .caseD 26 rfl (fun c26 => ?_) (fun c26 => ?_)
      · refine .skip rfl rfl ?_
        refine .skip rfl rfl ?_
        refine .skip rfl rfl ?_
        refine .skip rfl rfl ?_
        refine .skip rfl rfl ?_
        refine .p rfl rfl (.pickT rfl rfl) ?_
        refine .nil (.code (.keep [(32, _), (10, _), (0, _), (1, _), (2, _)] ⟨rfl, rfl, rfl, rfl, rfl, trivial⟩ (.condT rfl (.seq (.keep [] trivial (.region ?_))))))
        refine .p rfl rfl (.as rfl) ?_
        refine .p rfl rfl (.as rfl) ?_
        refine .p rfl rfl (.as rfl) ?_
        refine .p rfl rfl (.as rfl) ?_
        refine .nil (.code ?_)
        refine .ret _ rfl ?_
        have e : openF epoch prev b = ([], 0, 0, 0) := by unfold openF; rw [if_neg hE, if_neg hL, if_pos (by rw [h13]; omega)]
        rw [e]
        exact ⟨rfl, .refl _⟩
      · refine .p rfl rfl (.mv rfl) ?_
        refine .p rfl rfl (.mul rfl rfl (by omega)) ?_
        refine .p rfl rfl (.mv rfl) ?_
        refine .p rfl rfl (.len rfl rfl) ?_
        refine .p rfl rfl (.gt rfl rfl) ?_
        refine .p rfl rfl (.pickF rfl rfl) ?_
        refine .nil (.code (.keep [(32, _), (10, _), (0, _), (1, _), (2, _)] ⟨rfl, rfl, rfl, rfl, rfl, trivial⟩ ?_))
        refine .condD rfl (fun c32 => ?_) (fun c32 => ?_)
        · refine .seq (.keep [] trivial (.region ?_))
          refine .p rfl rfl (.as rfl) ?_
          refine .p rfl rfl (.as rfl) ?_
          refine .p rfl rfl (.as rfl) ?_
          refine .p rfl rfl (.as rfl) ?_
          refine .nil (.code ?_)
          refine .ret _ rfl ?_
          have e : openF epoch prev b = ([], 0, 0, 0) := by unfold openF; rw [if_neg hE, if_neg hL, if_pos (by rw [h13]; omega)]
          rw [e]
          exact ⟨rfl, .refl _⟩
        · have hnb : n * 128 ≤ b.length := by omega
          have hn1 : 1 ≤ n := by omega
          have hN : ¬ ((b.getD 13 0).toNat = 0 ∨ b.length < (b.getD 13 0).toNat * 128) := by rw [h13]; omega
          obtain ⟨a2, cap2, hv36, hc36, R36⟩ := Sl.cutE h 0 (n * 128) (by omega) (by omega)
          simp only [Nat.sub_zero, List.drop_zero] at hv36 hc36 R36
          refine .skip (.code (.seq (.keep [(10, _), (0, _), (1, _), (2, _)] ⟨rfl, rfl, rfl, rfl, trivial⟩ (.region ?_))))
          refine .p rfl rfl (.mv rfl) ?_
          refine .p rfl rfl (.mv rfl) ?_
          refine .p rfl rfl (.mul rfl rfl (by omega)) ?_
          refine .p rfl rfl (.cast (.cutHi (s := 1) rfl rfl rfl rfl (by omega)) (by show cutV 1 (some ⟨b13, o13, none⟩) cap 0 ((n : Int) * 128).toNat = .slice a2 (n * 128) cap2; rw [show ((n : Int) * 128).toNat = n * 128 by omega]; exact hv36)) ?_
          refine .p rfl rfl (.as rfl) ?_
          refine .nil (.code (.seq (.keep [(2, _), (10, _), (0, _), (1, _)] ⟨rfl, rfl, rfl, rfl, trivial⟩ (.region ?_))))
          refine .p rfl rfl (.as rfl) ?_
          refine .nil (.code (.seq (.seq (.region ?_))))
          refine .p rfl rfl (.mv rfl) ?_
          refine .p rfl rfl (.mv rfl) ?_
          refine .nil (.code (.block ?_))
          refine .loop (S := Nat × World × Value × Nat) (fun s => [(38, i64 s.1), (37, i64 n), (2, .slice a2 (n * 128) cap2), (11, s.2.2.1), (0, u32 epoch), (1, u32 prev), (10, i64 n)]) (fun s => s.2.1) (fun s => s.1 ≤ n ∧ Own tByte (fun _ => False) 5 s.2.1 s.2.2.1 (textTo b s.1) s.2.2.2 ∧ Ext (fun _ => False) w s.2.1 ∧ w.heap.size ≤ s.2.2.2) (fun s => n - s.1) (0, w, .slice none 0 0, w.heap.size) ⟨rfl, rfl, rfl, rfl, rfl, rfl, rfl, trivial⟩ rfl ⟨Nat.zero_le _, Own.nil, .refl _, Nat.le_refl _⟩ ?_
          rintro ⟨i, wi, vo, bo'⟩ J ⟨hi, hO, hX, hbo⟩ again
          simp only at hi hO hX hbo
          change G _ [(38, i64 i), (37, i64 n), (2, .slice a2 (n * 128) cap2), (11, vo), (0, u32 epoch), (1, u32 prev), (10, i64 n)] _ _ wi
          refine .seq (.region ?_)
          refine .p rfl rfl (.lt rfl rfl) ?_
          refine .nil (.code (.seq ?_))
          refine .condD rfl (fun c39 => ?_) (fun c39 => ?_)
          · have hin : i < n := by omega
            obtain ⟨a3, cap3, hv44, hc44, R44⟩ := Sl.cutE (tBytes.ext0 R36 hX) (i * 128) (n * 128) (by omega) (by omega)
            obtain ⟨a4, cap4, hv45, hc45, R45⟩ := Sl.cutE R44 0 128 (by omega) (by omega)
            rw [secAt_eq hin hnb] at R45
            simp only [Nat.sub_zero] at hv45 R45 hc45
            have hsl := secAt_length hin hnb
            obtain ⟨bb, bo, rfl, _, hc14⟩ := Sl.byteAt R45 (k := 14) (by omega)
            have hcut : cutOf (secAt b i) = min (secAt b i)[14].toNat 112 := by rw [cutOf, List.getD, List.getElem?_eq_getElem (by omega)]; rfl
            have hcl := cutOf_le (secAt b i)
            have hq : (16 + min ((secAt b i)[14].toNat : Int) 112).toNat = 16 + cutOf (secAt b i) := by rw [hcut]; omega
            have h14l := (secAt b i)[14].toNat_lt
            obtain ⟨a5, cap5, hv54, hc54, R54⟩ := Sl.cutE R45 16 (16 + cutOf (secAt b i)) (by omega) (by omega)
            rw [List.drop_take] at R54
            rw [Nat.add_sub_cancel_left] at R54 hv54
            refine .skip (.code (.seq (.block (.seq (.keep [(38, _), (37, _), (2, _), (11, _), (0, _), (1, _), (10, _)] ⟨rfl, rfl, rfl, rfl, rfl, rfl, rfl, trivial⟩ (.region ?_))))))
            refine .p rfl rfl (.mv rfl) ?_
            refine .p rfl rfl (.as rfl) ?_
            refine .nil (.code (.seq (.keep [(12, _), (38, _), (37, _), (2, _), (11, _), (0, _), (1, _), (10, _)] ⟨rfl, rfl, rfl, rfl, rfl, rfl, rfl, rfl, trivial⟩ (.region ?_))))
            refine .p rfl rfl (.mv rfl) ?_
            refine .p rfl rfl (.mv rfl) ?_
            refine .p rfl rfl (.mul rfl rfl (by omega)) ?_
            refine .p rfl rfl (.cast (.cutLo (s := 1) rfl rfl rfl rfl (by omega)) (by show cutV 1 a2 cap2 ((i : Int) * 128).toNat (n * 128) = .slice a3 (n * 128 - i * 128) cap3; rw [show ((i : Int) * 128).toNat = i * 128 by omega]; exact hv44)) ?_
            refine .p rfl rfl (.cast (.cutHi (s := 1) rfl rfl rfl rfl (by omega)) hv45) ?_
            refine .p rfl rfl (.as rfl) ?_
            refine .nil (.code (.keep [(13, _), (38, _), (37, _), (2, _), (11, _), (0, _), (1, _), (10, _)] ⟨rfl, rfl, rfl, rfl, rfl, rfl, rfl, rfl, trivial⟩ (.region ?_)))
            refine .p rfl rfl (.mv rfl) ?_
            refine .p rfl rfl (.mv rfl) ?_
            refine .p rfl rfl (.mv rfl) ?_
            refine .p rfl rfl (.indexAddr1 rfl rfl rfl rfl (by omega)) ?_
            refine .p rfl rfl (.load rfl rfl rfl hc14) ?_
            refine .p rfl rfl (.conv8_i rfl rfl rfl) ?_
            refine .p rfl rfl (.min2 rfl rfl) ?_
            refine .p rfl rfl (.add rfl rfl (by omega)) ?_
            refine .p rfl rfl (.cast (.cut (s := 1) rfl rfl rfl rfl rfl (by omega)) (by show cutV 1 (some ⟨bb, bo, none⟩) cap4 16 (16 + min ((secAt b i)[14].toNat : Int) 112).toNat = .slice a5 (cutOf (secAt b i)) cap5; rw [hq]; exact hv54)) ?_
            refine .v rfl rfl (.append (t := tByte) (ys := ((secAt b i).drop 16).take (cutOf (secAt b i))) (eb := 1) rfl hO rfl (Sl.holds R54 (fun _ _ h => h)) rfl rfl rfl rfl rfl rfl rfl (by have := textTo_length b i; rw [List.length_take]; omega) (by have := textTo_length b i; rw [List.length_take]; simp only [Lim]; omega) (fun _ h _ => h.elim)) ?_
            rintro v55 w55 ⟨b55, O55, X55, hb55⟩
            have O55 := O55.mono (Q' := fun _ => False) (fun _ h _ => h.1)
            have hX55 := hX.then X55 (by rintro k rfl _; omega)
            refine .p rfl rfl (.as rfl) ?_
            refine .nil (.blk (.code (.keep [(11, _), (38, _), (37, _), (2, _), (0, _), (1, _), (10, _)] ⟨rfl, rfl, rfl, rfl, rfl, rfl, rfl, trivial⟩ (.region ?_))))
            refine .p rfl rfl (.add rfl rfl (by omega)) ?_
            refine .p rfl rfl (.mv rfl) ?_
            refine .nil ?_
            refine (again (i + 1, w55, v55, b55) ⟨by show i + 1 ≤ _; omega, ?_, hX55, ?_⟩ (by show _ - (i + 1) < _ - i; omega)).of ⟨rfl, rfl, rfl, rfl, rfl, rfl, rfl, trivial⟩
            · show Own tByte _ _ w55 v55 _ b55
              rw [textTo_succ]
              exact O55
            · show w.heap.size ≤ b55
              have : w.heap.size ≤ wi.heap.size := hX.size
              have hb : b55 = bo' ∨ b55 = wi.heap.size := hb55
              omega
          · obtain rfl : i = n := by omega
            obtain ⟨a6, cap6, hv58, hc58, R58⟩ := Sl.cutE (tBytes.ext0 R36 hX) 4 (i * 128) (by omega) (by omega)
            have htl := textTo_length b i
            refine .exit rfl (.code (.seq (.keep [(2, _), (11, _), (0, _), (1, _), (10, _)] ⟨rfl, rfl, rfl, rfl, rfl, trivial⟩ (.region ?_))))
            refine .p rfl rfl (.mv rfl) ?_
            refine .p rfl rfl (.cast (.cutLo (s := 1) rfl rfl rfl rfl (by omega)) hv58) ?_
            refine .call (first := []) (captured := []) rfl rfl rfl rfl (logget_fn (tBytes.ext0 R58 (.refl _)) (by rw [List.length_drop, List.length_take, List.length_take]; omega)) ?_
            rintro _ w59 ⟨rfl, X59⟩
            rw [get4_eq hn1]
            have Z59 := hX.trans X59
            have RO := hO.rep (Q' := All) trivial (fun _ _ _ => trivial)
            refine .p rfl rfl (.as rfl) ?_
            refine .nil (.code (.seq (.keep [(7, _), (2, _), (11, _), (0, _), (1, _), (10, _)] ⟨rfl, rfl, rfl, rfl, rfl, rfl, trivial⟩ (.region ?_))))
            refine .p rfl rfl (.mv rfl) ?_
            refine .p rfl rfl (.mv rfl) ?_
            refine .p rfl rfl (.mv rfl) ?_
            refine .p rfl rfl (.mv rfl) ?_
            refine .p rfl rfl (.bytesStr rfl (tBytes.ext0 RO X59) rfl rfl rfl) ?_
            refine .call (first := []) (captured := []) rfl rfl rfl rfl (Frame_fn (by simp only [Lim]; omega)) ?_
            rintro _ w66 ⟨s66, rfl, R66, X66⟩
            have Z66 := Z59.trans X66
            refine .p rfl rfl (.mv rfl) ?_
            refine .p rfl rfl (.extract rfl rfl) ?_
            refine .p rfl rfl (.extract rfl rfl) ?_
            refine .p rfl rfl (.as rfl) ?_
            refine .p rfl rfl (.as rfl) ?_
            refine .nil (.code (.seq (.seq (.keep [(9, _), (14, _), (7, _), (2, _), (11, _), (10, _)] ⟨rfl, rfl, rfl, rfl, rfl, rfl, trivial⟩ (.region ?_)))))
            refine .p rfl rfl (.mv rfl) ?_
            refine .p rfl rfl (.ne rfl rfl) ?_
            refine .p rfl rfl (.mv rfl) ?_
            refine .caseD 71 rfl (fun c71 => ?_) (fun c71 => ?_)
            · refine .skip rfl rfl ?_
              refine .skip rfl rfl ?_
              refine .skip rfl rfl ?_
              refine .skip rfl rfl ?_
              refine .p rfl rfl (.pickT rfl rfl) ?_
              refine .nil (.code (.keep [(76, _), (7, _), (11, _), (10, _)] ⟨rfl, rfl, rfl, rfl, trivial⟩ (.condT rfl (.seq (.keep [] trivial (.region ?_))))))
              refine .p rfl rfl (.as rfl) ?_
              refine .p rfl rfl (.as rfl) ?_
              refine .p rfl rfl (.as rfl) ?_
              refine .p rfl rfl (.as rfl) ?_
              refine .nil (.code ?_)
              refine .ret _ rfl ?_
              have e : openF epoch prev b = ([], 0, 0, 0) := by unfold openF; rw [if_neg hE, if_neg hL, if_neg hN, h13, if_neg (fun hh => c71 hh.1)]
              rw [e]
              exact ⟨rfl, Z66⟩
            · refine .p rfl rfl (.mv rfl) ?_
              refine .p rfl rfl (.mv rfl) ?_
              refine .call (first := []) (captured := []) rfl rfl rfl rfl (bytesEqual_fn (allOf R66) (tBytes.ext0 R36 Z66)) ?_
              rintro _ w74 ⟨rfl, X74⟩
              refine .p rfl rfl (.notD rfl) ?_
              refine .p rfl rfl (.pickF rfl rfl) ?_
              refine .nil (.code (.keep [(76, _), (7, _), (11, _), (10, _)] ⟨rfl, rfl, rfl, rfl, trivial⟩ ?_))
              refine .condD rfl (fun c76 => ?_) (fun c76 => ?_)
              · refine .seq (.keep [] trivial (.region ?_))
                refine .p rfl rfl (.as rfl) ?_
                refine .p rfl rfl (.as rfl) ?_
                refine .p rfl rfl (.as rfl) ?_
                refine .p rfl rfl (.as rfl) ?_
                refine .nil (.code ?_)
                refine .ret _ rfl ?_
                have e : openF epoch prev b = ([], 0, 0, 0) := by unfold openF; rw [if_neg hE, if_neg hL, if_neg hN, h13, if_neg (fun hh => c76 hh.2)]
                rw [e]
                exact ⟨rfl, Z66.trans X74⟩
              · refine .skip (.code (.seq (.keep [(7, _), (11, _), (10, _)] ⟨rfl, rfl, rfl, trivial⟩ (.region ?_))))
                refine .p rfl rfl (.mv rfl) ?_
                refine .p rfl rfl (.bytesStr rfl (tBytes.ext0 RO ((X59.trans X66).trans X74)) rfl rfl rfl) ?_
                refine .p rfl rfl (.mv rfl) ?_
                refine .p rfl rfl (.mv rfl) ?_
                refine .p rfl rfl (.as rfl) ?_
                refine .p rfl rfl (.as rfl) ?_
                refine .p rfl rfl (.as rfl) ?_
                refine .p rfl rfl (.as rfl) ?_
                refine .nil (.code ?_)
                refine .ret _ rfl ?_
                have e : openF epoch prev b = (textTo b i, get4 (b.drop 4), i, 0) := by unfold openF; rw [if_neg hE, if_neg hL, if_neg hN, h13, if_pos ⟨Decidable.byContradiction c71, Decidable.byContradiction c76⟩]
                rw [e]
                exact ⟨rfl, Z66.trans X74⟩
end Go.Proofs.YthliepcjfnjnoaaGreatDoor
