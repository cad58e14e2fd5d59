import Derived.Test.YtpfehnopghffjaaGreatDoorT05
import Derived.Test.YtpfehnopghffjaaGreatDoorT04
import Derived.Test.YtpfehnopghffjaaGreatDoorProg
import Derived.Shelf.GgSortFunc.InsertionK
import Derived.Shelf.SlSortCmp.WholeK
import Derived.Shelf.SlSortCmp.NoneTotal
import Derived.Shelf.SlicesG.Cmp
set_option linter.unusedVariables false
set_option linter.unusedSimpArgs false
set_option maxRecDepth 20000
namespace Go.Proofs.YtpfehnopghffjaaGreatDoor
open Go
namespace page
abbrev RS := Bs × Bool
def numP (m : Nat) (s : RS) : Nat × RS := if ¬ (readF s.1).2.2 = 0 ∨ m < (readF s.1).1 then (0, (s.1, true)) else ((readF s.1).1, (s.1.drop (readF s.1).2.1, s.2))
theorem numP_le (m : Nat) (s : RS) : (numP m s).1 ≤ m ∧ (numP m s).2.1.length ≤ s.1.length := by
 unfold numP
 split
 ·exact ⟨Nat.zero_le _, Nat.le_refl _⟩
 ·rename_i h
  refine ⟨by show (readF s.1).1 ≤ m; omega, ?_⟩
  show (s.1.drop _).length ≤ _
  rw [List.length_drop]
  omega
theorem cutF_le (b : Bs) : (cutF b).1.length + (cutF b).2.1.length ≤ b.length := by
 unfold cutF
 split
 ·exact Nat.zero_le _
 ·rename_i h
  show (List.take _ _).length + (List.drop _ _).length ≤ _
  simp only [List.length_take, List.length_drop]
  omega
end page
theorem sumTo_cons (c : UInt8) (b : Bs) : ∀ i, sumTo (c :: b) (i + 1) = c.toNat % 128 + 128 * sumTo b i
 | 0 => by simp [sumTo]
 | i + 1 => by
  rw [sumTo, sumTo_cons c b i, sumTo, List.getD_cons_succ, Nat.pow_succ, Nat.mul_add]
  have : (b.getD i 0).toNat % 128 * (128 ^ i * 128) = 128 * ((b.getD i 0).toNat % 128 * 128 ^ i) := by
   rw [Nat.mul_comm (128 ^ i) 128, Nat.mul_left_comm]
  omega
theorem lead_big {c : UInt8} {b : Bs} (h : 128 ≤ c.toNat) : leadN (c :: b) = leadN b + 1 := by
 unfold leadN
 rw [List.takeWhile_cons, if_pos (by simpa using h)]
 rfl
theorem lead_low {c : UInt8} {b : Bs} (h : c.toNat < 128) : leadN (c :: b) = 0 := by
 unfold leadN
 rw [List.takeWhile_cons, if_neg (by simpa using h)]
 rfl
theorem small_back : ∀ (f n : Nat) (r : Bs), n < 128 ^ (f + 1) → ∃ k, (smallK (f + 1) n).length = k + 1 ∧ leadN (smallK (f + 1) n ++ r) = k ∧ sumTo (smallK (f + 1) n ++ r) (k + 1) = n ∧ (1 ≤ n → ((smallK (f + 1) n ++ r).getD k 0).toNat ≠ 0) ∧ (k ≠ 0 → 1 ≤ n) ∧ ((smallK (f + 1) n ++ r).getD k 0).toNat * 128 ^ k ≤ n := by
 have low : ∀ (f n : Nat) (r : Bs), n ≤ 127 → ∃ k, (smallK (f + 1) n).length = k + 1 ∧ leadN (smallK (f + 1) n ++ r) = k ∧ sumTo (smallK (f + 1) n ++ r) (k + 1) = n ∧ (1 ≤ n → ((smallK (f + 1) n ++ r).getD k 0).toNat ≠ 0) ∧ (k ≠ 0 → 1 ≤ n) ∧ ((smallK (f + 1) n ++ r).getD k 0).toNat * 128 ^ k ≤ n := by
  intro f n r h
  have e : smallK (f + 1) n = [UInt8.ofNat n] := by rw [smallK, if_pos h]
  have e1 : (UInt8.ofNat n).toNat = n := by
   rw [UInt8.toNat_ofNat']
   omega
  refine ⟨0, by rw [e]; rfl, ?_, ?_, ?_, fun h => absurd rfl h, ?_⟩
  ·rw [e]; exact lead_low (by omega)
  ·rw [e, List.singleton_append, sumTo_cons, e1, sumTo]; omega
  ·rw [e]; show 1 ≤ n → (UInt8.ofNat n).toNat ≠ 0; omega
  ·rw [e]; show (UInt8.ofNat n).toNat * 1 ≤ n; omega
 intro f
 induction f with
 | zero => intro n r h; exact low 0 n r (by omega)
 | succ f ih =>
  intro n r h
  by_cases hn : n ≤ 127
  ·exact low (f + 1) n r hn
  ·have e : smallK (f + 1 + 1) n = UInt8.ofNat (n % 128 + 128) :: smallK (f + 1) (n / 128) := by rw [smallK, if_neg hn]
   have e1 : (UInt8.ofNat (n % 128 + 128)).toNat = n % 128 + 128 := by
    rw [UInt8.toNat_ofNat']
    omega
   obtain ⟨k, h1, h2, h3, h4, h5, h6⟩ := ih (n / 128) r (by rw [Nat.pow_succ] at h; omega)
   refine ⟨k + 1, by rw [e, List.length_cons, h1], ?_, ?_, ?_, fun _ => by omega, ?_⟩
   ·rw [e, List.cons_append, lead_big (by omega), h2]
   ·rw [e, List.cons_append, sumTo_cons, h3, e1]
    omega
   ·rw [e, List.cons_append, List.getD_cons_succ]
    intro _
    exact h4 (by omega)
   ·rw [e, List.cons_append, List.getD_cons_succ, Nat.pow_succ, ← Nat.mul_assoc]
    have := Nat.mul_le_mul_right 128 h6
    omega
theorem read_small {n : Nat} (r : Bs) (h : n < 18446744073709551616) : readF (smallF n ++ r) = (n, (smallF n).length, 0) := by
 have h10 : (128 : Nat) ^ (9 + 1) = 1180591620717411303424 := by decide
 obtain ⟨k, h1, h2, h3, h4, h5, h6⟩ := small_back 9 n r (by omega)
 have hl := smallF_length n
 have e : smallF n = smallK (9 + 1) n := rfl
 rw [← e] at h1 h2 h3 h4 h6
 have ok : readOk (smallF n ++ r) := by
  unfold readOk
  rw [h2]
  refine ⟨by rw [List.length_append]; omega, by omega, fun hx => ?_, fun hx => h4 (h5 (by omega)) hx.2⟩
  obtain ⟨rfl, h8⟩ := hx
  have h7 : (128 : Nat) ^ 9 = 9223372036854775808 := by decide
  rw [h7] at h6
  omega
 unfold readF
 rw [if_pos ok, h2, h3, h1]
theorem cut_text {s : Bs} (r : Bs) (h : s.length < 18446744073709551616) : cutF (textF s ++ r) = (s, r, 0) := by
 have e : readF (textF s ++ r) = (s.length, (smallF s.length).length, 0) := by unfold textF; rw [List.append_assoc]; exact read_small _ h
 have e2 : (textF s ++ r).drop (smallF s.length).length = s ++ r := by unfold textF; rw [List.append_assoc, List.drop_left]
 unfold cutF
 rw [e, if_neg]
 ·simp only
  rw [e2, List.take_left, List.drop_left]
 ·simp only [List.length_append, textF]
  rintro (h1 | h1)
  ·exact h1 trivial
  ·omega
namespace page
end page
end Go.Proofs.YtpfehnopghffjaaGreatDoor
namespace Go.Proofs.YtpfehnopghffjaaGreatDoor
open Go
namespace files
open room
abbrev RS := Bs × Bool
def numS (m : Nat) (s : Bs) : Option (Nat × Bs) := if (page.numP m (s, false)).2.2 = true then none else some ((page.numP m (s, false)).1, (page.numP m (s, false)).2.1)
def cutS (s : Bs) : Option (Bs × Bs) := if ¬ (cutF s).2.2 = 0 then none else some ((cutF s).1, (cutF s).2.1)
def piecesS (B : Nat) : Nat → List Piece → Bs → Option (List Piece × Bs)
 | 0, acc, s => some (acc, s)
 | n + 1, acc, s => (numS B s).bind fun f => (numS 4096 f.2).bind fun c => piecesS B n (acc ++ [⟨(f.1 : Int), (c.1 : Int)⟩]) c.2
def filesS (B : Nat) : Nat → List File → Bs → Option (List File × Bs)
 | 0, acc, s => some (acc, s)
 | n + 1, acc, s => (cutS s).bind fun t => (numS 524288 t.2).bind fun z => (numS 4096 z.2).bind fun k => (piecesS B k.1 [] k.2).bind fun p => filesS B n (acc ++ [⟨t.1, (z.1 : Int), p.1⟩]) p.2
def parseS (B : Nat) (s : Bs) : Option (List File) := (numS 32 s).bind fun n => (filesS B n.1 [] n.2).map (·.1)
theorem piecesS_0 {B : Nat} {acc : List Piece} {s : Bs} : piecesS B 0 acc s = some (acc, s) := rfl
theorem piecesS_s {B n : Nat} {acc : List Piece} {s : Bs} : piecesS B (n + 1) acc s = (numS B s).bind fun f => (numS 4096 f.2).bind fun c => piecesS B n (acc ++ [⟨(f.1 : Int), (c.1 : Int)⟩]) c.2 := rfl
theorem filesS_0 {B : Nat} {acc : List File} {s : Bs} : filesS B 0 acc s = some (acc, s) := rfl
theorem filesS_s {B n : Nat} {acc : List File} {s : Bs} : filesS B (n + 1) acc s = (cutS s).bind fun t => (numS 524288 t.2).bind fun z => (numS 4096 z.2).bind fun k => (piecesS B k.1 [] k.2).bind fun p => filesS B n (acc ++ [⟨t.1, (z.1 : Int), p.1⟩]) p.2 := rfl
def St {β : Type} (R : Option β) (s : RS) (f : Bs → Option β) : Prop := R = if s.2 = true then none else f s.1
theorem St.bad {β : Type} {R : Option β} {s : RS} {f : Bs → Option β} (h : St R s f) (hb : s.2 = true) : R = none := by unfold St at h; rw [h, if_pos hb]
theorem St.ok {β : Type} {R : Option β} {s : RS} {f : Bs → Option β} (h : St R s f) (hb : ¬ s.2 = true) : R = f s.1 := by unfold St at h; rw [h, if_neg hb]
theorem St.to {β : Type} {R : Option β} {s : RS} {f g : Bs → Option β} (h : St R s f) (hg : f s.1 = g s.1) : St R s g := by unfold St at h ⊢; rw [h, hg]
theorem numP_bad {m : Nat} {s : RS} (h : s.2 = true) : (page.numP m s).2.2 = true := by
 unfold page.numP
 split
 ·rfl
 ·exact h
theorem numP_ok {m : Nat} {b : Bs} {z : Bool} (h : ¬ (page.numP m (b, z)).2.2 = true) : numS m b = some ((page.numP m (b, z)).1, (page.numP m (b, z)).2.1) := by
 cases z with
 | true => exact absurd (numP_bad rfl) h
 | false => unfold numS; rw [if_neg h]
theorem numP_no {m : Nat} {b : Bs} (h : (page.numP m (b, false)).2.2 = true) : numS m b = none := by unfold numS; rw [if_pos h]
theorem St.num {β : Type} {R : Option β} {s : RS} {m : Nat} {g : Nat × Bs → Option β} (h : St R s (fun b => (numS m b).bind g)) : St R (page.numP m s).2 (fun b => g ((page.numP m s).1, b)) := by
 obtain ⟨b, z⟩ := s
 unfold St at h ⊢
 cases z with
 | true => rw [h, if_pos rfl, if_pos (numP_bad rfl)]
 | false =>
  rw [h, if_neg (fun h => by cases h)]
  by_cases hz : (page.numP m (b, false)).2.2 = true
  ·rw [if_pos hz]
   show (numS m b).bind g = none
   rw [numP_no hz]
   rfl
  ·rw [if_neg hz]
   show (numS m b).bind g = _
   rw [numP_ok hz]
   rfl
theorem St.cutN {β : Type} {R : Option β} {s : RS} {g : Bs × Bs → Option β} (h : St R s (fun b => (cutS b).bind g)) (hc : ¬ (cutF s.1).2.2 = 0) : R = none := by
 unfold St at h
 rw [h]
 split
 ·rfl
 ·show (cutS s.1).bind g = none
  unfold cutS
  rw [if_pos hc]
  rfl
theorem St.cut {β : Type} {R : Option β} {s : RS} {g : Bs × Bs → Option β} (h : St R s (fun b => (cutS b).bind g)) (hc : (cutF s.1).2.2 = 0) : St R ((cutF s.1).2.1, s.2) (fun b => g ((cutF s.1).1, b)) := by
 unfold St at h ⊢
 rw [h]
 split
 ·rfl
 ·show (cutS s.1).bind g = _
  unfold cutS
  rw [if_neg (fun h => h hc)]
  rfl
theorem numP_f (m : Nat) (s : Bs) : page.numP m (s, false) = if ¬ (readF s).2.2 = 0 ∨ m < (readF s).1 then (0, (s, true)) else ((readF s).1, (s.drop (readF s).2.1, false)) := rfl
theorem numS_eq (m : Nat) (s : Bs) : numS m s = if ¬ (readF s).2.2 = 0 ∨ m < (readF s).1 then none else some ((readF s).1, s.drop (readF s).2.1) := by
 unfold numS
 rw [numP_f]
 by_cases h : ¬ (readF s).2.2 = 0 ∨ m < (readF s).1
 ·rw [if_pos h, if_pos h]; exact if_pos rfl
 ·rw [if_neg h, if_neg h]; exact if_neg (fun h => by cases h)
theorem numS_up {s : Bs} {r : Nat × Bs} (h : numS 4095 s = some r) : numS 4096 s = some r ∧ r.1 ≤ 4095 := by
 rw [numS_eq] at h ⊢
 by_cases h1 : ¬ (readF s).2.2 = 0 ∨ 4095 < (readF s).1
 ·rw [if_pos h1] at h
  cases h
 ·rw [if_neg h1] at h
  cases h
  exact ⟨if_neg (fun h2 => h2.elim (fun h3 => h1 (.inl h3)) (fun h3 => h1 (.inr (by omega)))), by show (readF s).1 ≤ 4095; omega⟩
theorem numS_down {s : Bs} {r : Nat × Bs} (h : numS 4096 s = some r) (hr : r.1 ≤ 4095) : numS 4095 s = some r := by
 rw [numS_eq] at h ⊢
 by_cases h1 : ¬ (readF s).2.2 = 0 ∨ 4096 < (readF s).1
 ·rw [if_pos h1] at h
  cases h
 ·rw [if_neg h1] at h
  cases h
  have hr : (readF s).1 ≤ 4095 := hr
  exact if_neg (fun h2 => h2.elim (fun h3 => h1 (.inl h3)) (fun h3 => by omega))
theorem piecesS_up : ∀ {n : Nat} {acc : List Piece} {s : Bs} {r : List Piece × Bs}, piecesS 4095 n acc s = some r → piecesS 4096 n acc s = some r
 | 0, _, _, _, h => h
 | n + 1, acc, s, r, h => by
  rw [piecesS_s] at h ⊢
  obtain ⟨f, hf, h⟩ := Option.bind_eq_some_iff.1 h
  obtain ⟨c, hc, h⟩ := Option.bind_eq_some_iff.1 h
  exact Option.bind_eq_some_iff.2 ⟨f, (numS_up hf).1, Option.bind_eq_some_iff.2 ⟨c, hc, piecesS_up h⟩⟩
theorem piecesS_acc {B : Nat} : ∀ {n : Nat} {acc : List Piece} {s : Bs} {r : List Piece × Bs}, piecesS B n acc s = some r → ∀ p ∈ acc, p ∈ r.1
 | 0, acc, s, r, h => by
  rw [piecesS_0] at h
  cases h
  exact fun p hp => hp
 | n + 1, acc, s, r, h => by
  rw [piecesS_s] at h
  obtain ⟨f, hf, h⟩ := Option.bind_eq_some_iff.1 h
  obtain ⟨c, hc, h⟩ := Option.bind_eq_some_iff.1 h
  exact fun p hp => piecesS_acc h p (List.mem_append_left _ hp)
theorem piecesS_down : ∀ {n : Nat} {acc : List Piece} {s : Bs} {r : List Piece × Bs}, piecesS 4096 n acc s = some r → (∀ p ∈ r.1, p.fr ≤ 4095) → piecesS 4095 n acc s = some r
 | 0, _, _, _, h, _ => h
 | n + 1, acc, s, r, h, hr => by
  rw [piecesS_s] at h ⊢
  obtain ⟨f, hf, h⟩ := Option.bind_eq_some_iff.1 h
  obtain ⟨c, hc, h⟩ := Option.bind_eq_some_iff.1 h
  have := hr ⟨(f.1 : Int), (c.1 : Int)⟩ (piecesS_acc h _ (by simp))
  simp only at this
  exact Option.bind_eq_some_iff.2 ⟨f, numS_down hf (by omega), Option.bind_eq_some_iff.2 ⟨c, hc, piecesS_down h hr⟩⟩
theorem filesS_up : ∀ {n : Nat} {acc : List File} {s : Bs} {r : List File × Bs}, filesS 4095 n acc s = some r → filesS 4096 n acc s = some r
 | 0, _, _, _, h => h
 | n + 1, acc, s, r, h => by
  rw [filesS_s] at h ⊢
  obtain ⟨t, ht, h⟩ := Option.bind_eq_some_iff.1 h
  obtain ⟨z, hz, h⟩ := Option.bind_eq_some_iff.1 h
  obtain ⟨k, hk, h⟩ := Option.bind_eq_some_iff.1 h
  obtain ⟨p, hp, h⟩ := Option.bind_eq_some_iff.1 h
  exact Option.bind_eq_some_iff.2 ⟨t, ht, Option.bind_eq_some_iff.2 ⟨z, hz, Option.bind_eq_some_iff.2 ⟨k, hk, Option.bind_eq_some_iff.2 ⟨p, piecesS_up hp, filesS_up h⟩⟩⟩⟩
theorem filesS_acc {B : Nat} : ∀ {n : Nat} {acc : List File} {s : Bs} {r : List File × Bs}, filesS B n acc s = some r → ∀ p ∈ acc, p ∈ r.1
 | 0, acc, s, r, h => by
  rw [filesS_0] at h
  cases h
  exact fun p hp => hp
 | n + 1, acc, s, r, h => by
  rw [filesS_s] at h
  obtain ⟨t, ht, h⟩ := Option.bind_eq_some_iff.1 h
  obtain ⟨z, hz, h⟩ := Option.bind_eq_some_iff.1 h
  obtain ⟨k, hk, h⟩ := Option.bind_eq_some_iff.1 h
  obtain ⟨p, hp, h⟩ := Option.bind_eq_some_iff.1 h
  exact fun p hp => filesS_acc h p (List.mem_append_left _ hp)
theorem filesS_down : ∀ {n : Nat} {acc : List File} {s : Bs} {r : List File × Bs}, filesS 4096 n acc s = some r → (∀ f ∈ r.1, ∀ p ∈ f.ps, p.fr ≤ 4095) → filesS 4095 n acc s = some r
 | 0, _, _, _, h, _ => h
 | n + 1, acc, s, r, h, hr => by
  rw [filesS_s] at h ⊢
  obtain ⟨t, ht, h⟩ := Option.bind_eq_some_iff.1 h
  obtain ⟨z, hz, h⟩ := Option.bind_eq_some_iff.1 h
  obtain ⟨k, hk, h⟩ := Option.bind_eq_some_iff.1 h
  obtain ⟨p, hp, h⟩ := Option.bind_eq_some_iff.1 h
  have h1 := hr ⟨t.1, (z.1 : Int), p.1⟩ (filesS_acc h _ (by simp))
  exact Option.bind_eq_some_iff.2 ⟨t, ht, Option.bind_eq_some_iff.2 ⟨z, hz, Option.bind_eq_some_iff.2 ⟨k, hk, Option.bind_eq_some_iff.2 ⟨p, piecesS_down hp h1, filesS_down h hr⟩⟩⟩⟩
theorem parse_up {s : Bs} {l : List File} (h : parseS 4095 s = some l) : parseS 4096 s = some l := by
 unfold parseS at h ⊢
 obtain ⟨n, hn, h⟩ := Option.bind_eq_some_iff.1 h
 obtain ⟨r, hr, h⟩ := Option.map_eq_some_iff.1 h
 exact Option.bind_eq_some_iff.2 ⟨n, hn, Option.map_eq_some_iff.2 ⟨r, filesS_up hr, h⟩⟩
theorem parse_down {s : Bs} {l : List File} (h : parseS 4096 s = some l) (hl : ∀ f ∈ l, ∀ p ∈ f.ps, p.fr ≤ 4095) : parseS 4095 s = some l := by
 unfold parseS at h ⊢
 obtain ⟨n, hn, h⟩ := Option.bind_eq_some_iff.1 h
 obtain ⟨r, hr, h⟩ := Option.map_eq_some_iff.1 h
 subst h
 exact Option.bind_eq_some_iff.2 ⟨n, hn, Option.map_eq_some_iff.2 ⟨r, filesS_down hr hl, rfl⟩⟩
def innerD (b : Bs) : Bs := (List.range 8).flatMap (fun i => ((b.drop (i * 128)).take 128).drop 9)
noncomputable def freadG (B : Nat) (b : Bs) : Dir × Int :=
 if ¬ b.length = 1024 then (⟨0, []⟩, 8) else
 match parseS B (innerD b) with
 | none => (⟨0, []⟩, 8)
 | some fs => if writeF ⟨min (getTo b 8 : Int) 4611686018427387904, fs⟩ = (b, 0) then (⟨min (getTo b 8 : Int) 4611686018427387904, fs⟩, 0) else (⟨0, []⟩, 8)
noncomputable def readD (b : Bs) : Dir × Int := freadG 4096 b
theorem freadG_len {B : Nat} {b : Bs} (h : ¬ b.length = 1024) : freadG B b = (⟨0, []⟩, 8) := by unfold freadG; rw [if_pos h]
theorem freadG_none {B : Nat} {b : Bs} (h : b.length = 1024) (hp : parseS B (innerD b) = none) : freadG B b = (⟨0, []⟩, 8) := by unfold freadG; rw [if_neg (fun h2 => h2 h), hp]
theorem freadG_no {B : Nat} {b : Bs} {fs : List File} (h : b.length = 1024) (hp : parseS B (innerD b) = some fs) (hw : ¬ writeF ⟨min (getTo b 8 : Int) 4611686018427387904, fs⟩ = (b, 0)) : freadG B b = (⟨0, []⟩, 8) := by
 unfold freadG; rw [if_neg (fun h2 => h2 h), hp]; simp only; rw [if_neg hw]
theorem freadG_ok {B : Nat} {b : Bs} {fs : List File} (h : b.length = 1024) (hp : parseS B (innerD b) = some fs) (hw : writeF ⟨min (getTo b 8 : Int) 4611686018427387904, fs⟩ = (b, 0)) : freadG B b = (⟨min (getTo b 8 : Int) 4611686018427387904, fs⟩, 0) := by
 unfold freadG; rw [if_neg (fun h2 => h2 h), hp]; simp only; rw [if_pos hw]
theorem writeF_ok {x : Dir} {b : Bs} (h : writeF x = (b, 0)) : checkD x = 0 ∧ ¬ 952 < (bodyD x.fs).length ∧ b = slotsD x.gen.toNat (bodyD x.fs ++ List.replicate (952 - (bodyD x.fs).length) 0) := by
 by_cases hc : checkD x = 0
 ·by_cases hl : 952 < (bodyD x.fs).length
  ·rw [writeF_42 hc hl] at h
   exact absurd (congrArg Prod.snd h) (by show ¬ (42 : Int) = 0; decide)
  ·rw [writeF_0 hc hl] at h
   exact ⟨hc, hl, (congrArg Prod.fst h).symm⟩
 ·rw [writeF_e hc] at h
  exact absurd (congrArg Prod.snd h) hc
theorem readG_eq (b : Bs) : freadG 4095 b = readD b := by
 unfold readD
 by_cases h : b.length = 1024
 ·cases hp : parseS 4095 (innerD b) with
  | none =>
   rw [freadG_none h hp]
   cases hq : parseS 4096 (innerD b) with
   | none => rw [freadG_none h hq]
   | some l =>
    by_cases hw : writeF ⟨min (getTo b 8 : Int) 4611686018427387904, l⟩ = (b, 0)
    ·exfalso
     obtain ⟨_, hm⟩ := checkD_ok (writeF_ok hw).1
     have := parse_down hq (fun f hf p hp => by have := (piece_ok hm hf hp).2.1; omega)
     rw [hp] at this
     cases this
    ·rw [freadG_no h hq hw]
  | some l =>
   have hq := parse_up hp
   by_cases hw : writeF ⟨min (getTo b 8 : Int) 4611686018427387904, l⟩ = (b, 0)
   ·rw [freadG_ok h hp hw, freadG_ok h hq hw]
   ·rw [freadG_no h hp hw, freadG_no h hq hw]
 ·rw [freadG_len h, freadG_len h]
end files
end Go.Proofs.YtpfehnopghffjaaGreatDoor
namespace Go.Proofs.YtpfehnopghffjaaGreatDoor
open Go
theorem Sl.cutM {α : Type} {t : Ty α} {P : Nat → Prop} {w : World} {xs : List α} {a : Option Addr} {n cap : Nat} (h : (Sl t).rep P w (.slice a n cap) xs) (l k : Nat) (h1 : l ≤ k) (h2 : k ≤ n) : (Sl t).rep P w (cutV t.size a k l k) ((xs.take k).drop l) := by
 obtain ⟨hl, a', cap', hv, hc, h⟩ := h
 cases hv
 have hlen : ((xs.take k).drop l).length = k - l := by simp; omega
 refine ⟨by rw [hlen]; simp only [Lim] at *; omega, (if k = l then a else a.map (·.add (l * t.size))), k - l, by simp [cutV, hlen], by rw [hlen]; omega, ?_⟩
 rcases h with ⟨rfl, rfl⟩ | ⟨b, o, us, rfl, hb, hlt, he, hcs⟩
 ·left
  have hk : k = 0 := by simp at h2; exact h2
  subst hk
  simp
 ·right
  by_cases hcl : k = l
  ·subst hcl
   refine ⟨b, o, [], by simp, hb, hlt, ?_, Cells.nil _ _ _⟩
   have : (xs.take k).drop k = [] := List.eq_nil_of_length_eq_zero (by rw [hlen]; omega)
   rw [this]
   exact .nil
  ·refine ⟨b, o + l * t.size, (us.take k).drop l, by simp [hcl, add_none], hb, hlt, (he.take k).drop l, ?_⟩
   have hsz := he.mem (n := t.size) (fun u x h => t.sz h)
   rw [flat_drop l (fun u hu => hsz u (List.mem_of_mem_take hu)), flat_take k hsz]
   exact (hcs.take _).drop _
theorem slicesEqual_fn {w : World} {v u : Value} {l m : Bs} (hl : tBytes.rep All w v l) (hm : tBytes.rep All w u m) : Fn Tryz.prog 60 [v, u] w (fun r w2 => r = .bool (decide (l = m)) ∧ Ext (fun _ => False) w w2) := by
 obtain ⟨a, cap, rfl, hcap⟩ := Sl.val hl
 obtain ⟨a2, cap2, rfl, hcap2⟩ := Sl.val hm
 have hlim := Sl.lim hl
 simp only [Lim] at hlim
 refine Fn.enter (fun w => Tryz.call60 _ w) Tryz.func60 rfl ?_
 refine .seq (.region ?_)
 refine .p rfl rfl (.as rfl) (.nil (.code (.seq (.seq (.keep [(0, _), (1, _)] ⟨rfl, rfl, trivial⟩ (.region ?_))))))
 refine .p rfl rfl (.mv rfl) (.p rfl rfl (.len rfl rfl) (.p rfl rfl (.mv rfl) (.p rfl rfl (.len rfl rfl) (.p rfl rfl (.ne rfl rfl) (.nil (.code (.keep [(10, _), (0, _), (1, _)] ⟨rfl, rfl, rfl, trivial⟩ ?_)))))))
 refine .condD rfl (fun c10 => ?_) (fun c10 => ?_)
 ·refine .seq (.keep [] trivial (.region ?_))
  refine .p rfl rfl (.as rfl) (.nil (.code ?_))
  refine .ret _ rfl ?_
  refine ⟨?_, .refl w⟩
  rw [decide_eq_false (fun h => by subst h; exact c10 rfl)]
  rfl
 ·have hle : l.length = m.length := by omega
  refine .skip (.code (.seq (.seq (.keep [(0, _), (1, _)] ⟨rfl, rfl, trivial⟩ (.region ?_)))))
  refine .p rfl rfl (.mv rfl) (.p rfl rfl (.len rfl rfl) (.p rfl rfl (.mv rfl) (.nil (.code (.block (.keep [(13, _), (12, _), (0, _), (1, _)] ⟨rfl, rfl, rfl, rfl, trivial⟩ ?_))))))
  refine .loop (S := Nat) (fun s => [(0, .slice a l.length cap), (1, .slice a2 m.length cap2), (12, i64 l.length), (13, i64 s)]) (fun s => w) (fun s => s ≤ l.length ∧ ∀ j (h : j < l.length) (h2 : j < m.length), j < s → l[j] = m[j]) (fun s => l.length - s) 0 ⟨rfl, rfl, rfl, rfl, trivial⟩ rfl ⟨Nat.zero_le _, fun j _ _ h => absurd h (Nat.not_lt_zero _)⟩ ?_
  rintro i J ⟨hi', hs⟩ again
  refine .seq (.region ?_)
  refine .p rfl rfl (.lt rfl rfl) (.nil (.code (.seq ?_)))
  refine .condD rfl (fun c14 => ?_) (fun c14 => ?_)
  ·have hi : i < l.length := by omega
   obtain ⟨b1, o1, e1, _, hc1⟩ := Sl.byteAt hl hi
   obtain ⟨b2, o2, e2, _, hc2⟩ := Sl.byteAt hm (k := i) (by omega)
   subst e1
   subst e2
   refine .skip (.code (.seq (.block (.seq (.keep [(0, _), (1, _), (12, _), (13, _)] ⟨rfl, rfl, rfl, rfl, trivial⟩ (.region ?_))))))
   refine .p rfl rfl (.mv rfl) (.p rfl rfl (.as rfl) (.nil (.code (.seq (.keep [(5, _), (0, _), (1, _), (12, _), (13, _)] ⟨rfl, rfl, rfl, rfl, rfl, trivial⟩ (.draws (by kernel_rfl) (by kernel_rfl) ?_))))))
   refine .p rfl rfl (.mv rfl) (.p rfl rfl (.mv rfl) (.p rfl rfl (.indexAddr1 rfl rfl rfl rfl (by omega)) (.p rfl rfl (.load rfl rfl rfl hc1) (.p rfl rfl (.mv rfl) (.p rfl rfl (.mv rfl) (.p rfl rfl (.indexAddr1 rfl rfl rfl rfl (by omega)) (.p rfl rfl (.load rfl rfl rfl hc2) (.p rfl rfl (.ne rfl rfl) (.nil (.code (.keep [(24, _), (0, _), (1, _), (12, _), (13, _)] ⟨rfl, rfl, rfl, rfl, rfl, trivial⟩ ?_)))))))))))
   refine .condD rfl (fun c24 => ?_) (fun c24 => ?_)
   ·refine .seq (.keep [] trivial (.region ?_))
    refine .p rfl rfl (.as rfl) (.nil (.code ?_))
    refine .ret _ rfl ?_
    refine ⟨?_, .refl w⟩
    rw [decide_eq_false (fun h => by subst h; exact c24 rfl)]
    rfl
   ·refine .skip (.blk (.code (.keep [(0, _), (1, _), (12, _), (13, _)] ⟨rfl, rfl, rfl, rfl, trivial⟩ (.region ?_))))
    refine .p rfl rfl (.add rfl rfl (by omega)) (.p rfl rfl (.mv rfl) (.nil ?_))
    refine (again (i + 1) ⟨by omega, fun j hj hj2 h1 => ?_⟩ (by omega)).of ⟨rfl, rfl, rfl, rfl, trivial⟩
    rcases Nat.lt_or_ge j i with h2 | h2
    ·exact hs j hj hj2 h2
    ·obtain rfl : j = i := by omega
     have h : ((l[j].toNat : Nat) : Int) = ((m[j].toNat : Nat) : Int) := Decidable.not_not.1 c24
     exact UInt8.toNat_inj.1 (by omega)
  ·obtain rfl : i = l.length := by omega
   refine .exit rfl (.code (.seq (.keep [] trivial (.region ?_))))
   refine .p rfl rfl (.as rfl) (.nil (.code ?_))
   refine .ret _ rfl ?_
   refine ⟨?_, .refl w⟩
   rw [decide_eq_true (List.ext_getElem hle (fun j h1 h2 => hs j h1 h2 h1))]
   rfl
theorem Chunk_fn {w : World} {v : Value} (hv : v.cells = #[v]) (h1 : v.oneCell' = true) : Fn Tryz.prog 55 [v, i64 128] w (fun r w2 => r = .func (.func 116) #[] #[.pointer (some ⟨w.heap.size, 0, none⟩), .pointer (some ⟨w.heap.size + 1, 0, none⟩)] ∧ Blk w2 w.heap.size 25 [v] ∧ Blk w2 (w.heap.size + 1) 3 [i64 128] ∧ w2.heap.size = w.heap.size + 2 ∧ Ext (fun _ => False) w w2) := by
 refine Fn.enter (fun w => Tryz.call55 _ w) Tryz.func55 rfl ?_
 refine .seq (.region ?_)
 refine .v rfl rfl (.box rfl) ?_
 rintro _ w2 ⟨rfl, N2⟩
 refine .v rfl rfl (.box rfl) ?_
 rintro _ w3 ⟨rfl, N3⟩
 have z2 := N2.size
 have B3 : Blk w3 w2.heap.size 3 [i64 128] := N3.blk
 have z3 := N3.size
 have B2 : Blk w2 w.heap.size 25 [v] := by have h := N2.blk; rw [hv] at h; exact h
 refine .p rfl rfl (.as rfl) (.nil (.code (.seq (.seq (.keep [(3, _), (2, _)] ⟨rfl, rfl, trivial⟩ (.region ?_))))))
 refine .p rfl rfl (.load rfl rfl rfl (B3.cell 0)) (.p rfl rfl (.no (.lt rfl rfl) (by decide)) (.nil (.code (.keep [(6, _), (3, _), (2, _)] ⟨rfl, rfl, rfl, trivial⟩ (.condF rfl (.skip (.code (.seq (.keep [(3, _), (2, _)] ⟨rfl, rfl, trivial⟩ (.region ?_))))))))))
 refine .p rfl rfl (.makeFunc rfl rfl) (.p rfl rfl (.as rfl) (.nil (.code ?_)))
 refine .ret _ rfl ?_
 refine ⟨by rw [z2]; rfl, B2.ext N3.ext (fun x => x), by rw [← z2]; exact B3, by omega, N2.ext.trans N3.ext⟩
theorem Chunk1_fn {w : World} {cb cn D : Nat} {fn : FuncId} {tmps : Array Value} {ps : Array Tmp} {assign body : Code} {J : Nat → World → Prop} {a : Option Addr} {cap : Nat} (hcap : 1024 ≤ cap) (hJ : ∀ i W, J i W → Blk W cb 25 [.slice a 1024 cap] ∧ Blk W cn 3 [i64 128]) (hy : ∀ i W, i < 8 → Between fn tmps ps assign body D (J i) W → YieldAt Fence.wide 0 Tryz.prog (D + 1) #[cutV 1 a (i * 128 + 128) (i * 128) (i * 128 + 128)] W (fun en w3 => en = .returned (.bool true) ∧ Between fn tmps ps assign body D (J (i + 1)) w3)) (h0 : Between fn tmps ps assign body D (J 0) w) : Fn Tryz.prog 116 [.func (.yield (D + 1)) #[] #[], .pointer (some ⟨cb, 0, none⟩), .pointer (some ⟨cn, 0, none⟩)] w (fun r w2 => Between fn tmps ps assign body D (J 8) w2) := by
 refine Fn.enter (fun w => Tryz.call116 _ w) Tryz.func116 rfl ?_
 refine .seq (.region ?_)
 refine .p rfl rfl (.as rfl) (.nil (.code (.block ?_)))
 refine .loop (S := Nat × World) (fun s => [(0, .func (.yield (D + 1)) #[] #[]), (1, .pointer (some ⟨cb, 0, none⟩)), (2, .pointer (some ⟨cn, 0, none⟩)), (4, i64 ((s.1 * 128 : Nat) : Int))]) (fun s => s.2) (fun s => s.1 ≤ 8 ∧ Between fn tmps ps assign body D (J s.1) s.2) (fun s => 8 - s.1) (0, w) ⟨rfl, rfl, rfl, rfl, trivial⟩ rfl ⟨Nat.zero_le _, h0⟩ ?_
 rintro ⟨i, wi⟩ J' ⟨hi', hbt⟩ again
 simp only at hi' hbt
 have B : Blk wi cb 25 [.slice a 1024 cap] := hbt.blk (fun W h => (hJ _ W h).1)
 have Bn : Blk wi cn 3 [i64 128] := hbt.blk (fun W h => (hJ _ W h).2)
 change G _ [(0, .func (.yield (D + 1)) #[] #[]), (1, .pointer (some ⟨cb, 0, none⟩)), (2, .pointer (some ⟨cn, 0, none⟩)), (4, i64 ((i * 128 : Nat) : Int))] _ _ wi
 refine .seq (.seq (.region ?_))
 refine .p rfl rfl (.mv rfl) (.p rfl rfl (.load rfl rfl rfl (B.cell 0)) (.p rfl rfl (.len rfl rfl) (.p rfl rfl (.lt rfl rfl) (.nil (.code (.keep [(9, _), (0, _), (1, _), (2, _), (4, _)] ⟨rfl, rfl, rfl, rfl, rfl, trivial⟩ ?_))))))
 refine .condD rfl (fun c9 => ?_) (fun c9 => ?_)
 ·have hi : i < 8 := by omega
  refine .skip (.code (.seq (.block (.seq (.keep [(0, _), (1, _), (2, _), (4, _)] ⟨rfl, rfl, rfl, rfl, trivial⟩ (.draws (by kernel_rfl) (by kernel_rfl) ?_))))))
  refine .p rfl rfl (.load rfl rfl rfl (Bn.cell 0)) (.p rfl rfl (.load rfl rfl rfl (B.cell 0)) (.p rfl rfl (.mv rfl) (.p rfl rfl (.cutLo (s := 1) rfl rfl rfl rfl (by omega)) (.p rfl rfl (.len rfl rfl) (.p rfl rfl (.cast (.min2 rfl rfl) (show _ = i64 128 by congr 1; omega)) (.p rfl rfl (.as rfl) (.nil (.code (.seq (.keep [(5, _), (0, _), (1, _), (2, _), (4, _)] ⟨rfl, rfl, rfl, rfl, rfl, trivial⟩ (.regionI ?_)))))))))))
  refine .p rfl rfl (.mv rfl) (.p rfl rfl (.load rfl rfl rfl (B.cell 0)) (.p rfl rfl (.mv rfl) (.p rfl rfl (.mv rfl) (.p rfl rfl (.mv rfl) (.p rfl rfl (.add rfl rfl (by omega)) (.p rfl rfl (.mv rfl) (.p rfl rfl (.mv rfl) (.p rfl rfl (.add rfl rfl (by omega)) (.p rfl rfl (.cast (.cut3 (s := 1) rfl rfl rfl rfl rfl rfl (by omega)) (show cutV 1 a (((i * 128 : Nat) : Int) + 128).toNat ((i * 128 : Nat) : Int).toNat (((i * 128 : Nat) : Int) + 128).toNat = cutV 1 a (i * 128 + 128) (i * 128) (i * 128 + 128) by rw [show (((i * 128 : Nat) : Int) + 128).toNat = i * 128 + 128 by omega, Int.toNat_natCast])) (.yield (Post := fun b w2 => b = true ∧ Between fn tmps ps assign body D (J (i + 1)) w2) rfl rfl rfl rfl (fun w' hs => ?y) ?_))))))))))
  case y =>
   obtain ⟨fn', tm', as', bo', h1, h2⟩ := hy i w' hi (hbt.same hs)
   exact ⟨fn', tm', as', bo', h1, h2.mono (fun en w3 h => ⟨true, w3, .refl _, h.1, rfl, h.2⟩)⟩
  rintro _ w29 ⟨rfl, hb29⟩
  have Bn29 : Blk w29 cn 3 [i64 128] := hb29.blk (fun W h => (hJ _ W h).2)
  refine .p rfl rfl (.not rfl) (.nil (.code (.keep [(30, _), (0, _), (1, _), (2, _), (4, _)] ⟨rfl, rfl, rfl, rfl, rfl, trivial⟩ (.condF rfl (.skip (.blk (.code (.keep [(0, _), (1, _), (2, _), (4, _)] ⟨rfl, rfl, rfl, rfl, trivial⟩ (.region ?_)))))))))
  refine .p rfl rfl (.mv rfl) (.p rfl rfl (.load rfl rfl rfl (Bn29.cell 0)) (.p rfl rfl (.add rfl rfl (by omega)) (.p rfl rfl (.as rfl) (.nil ?_))))
  refine (again (i + 1, w29) ⟨by show i + 1 ≤ 8; omega, hb29⟩ (by show 8 - (i + 1) < 8 - i; omega)).of ⟨rfl, rfl, rfl, ?_, trivial⟩
  show _ = some (i64 (((i + 1) * 128 : Nat) : Int))
  rw [show (((i + 1) * 128 : Nat) : Int) = ((i * 128 : Nat) : Int) + 128 by omega]
  rfl
 ·obtain rfl : i = 8 := by omega
  refine .exit rfl (.fin [] rfl ?_)
  exact hbt
end Go.Proofs.YtpfehnopghffjaaGreatDoor
namespace Go.Proofs.YtpfehnopghffjaaGreatDoor
open Go Go.Sort
namespace room
instance : Inhabited Piece := ⟨⟨0, 0⟩⟩
def encP (p : Piece) : List Value := [i64 p.fr, i64 p.ct]
def flatP (xs : List Piece) : List Value := xs.flatMap encP
theorem flatP_length (xs : List Piece) : (flatP xs).length = xs.length * 2 := by
 induction xs with
 | nil => rfl
 | cons p xs ih => simp only [flatP, List.flatMap_cons, List.length_append, List.length_cons] at *; rw [ih]; simp [encP]; omega
theorem flatP_get (xs : List Piece) : ∀ (j : Nat), j < xs.length * 2 → (flatP xs)[j]? = some ((encP (xs.toArray[j / 2]!))[j % 2]!) := by
 induction xs with
 | nil => intro j hj; simp at hj
 | cons p xs ih =>
  intro j hj
  rcases Nat.lt_or_ge j 2 with h | h
  ·match j, h with
   | 0, _ => rfl
   | 1, _ => rfl
  ·obtain ⟨k, rfl⟩ : ∃ k, j = k + 2 := ⟨j - 2, by omega⟩
   have e1 : (flatP (p :: xs))[k + 2]? = (flatP xs)[k]? := by simp [flatP, encP]
   have e2 : (k + 2) / 2 = k / 2 + 1 := by omega
   have e3 : (k + 2) % 2 = k % 2 := by omega
   rw [e1, e2, e3, ih k (by simp at hj; omega)]
   congr 2
   simp
theorem flatK_get (xs : List Piece) (j : Nat) (hj : j < xs.length * 2) : (flatK encP 2 xs.toArray)[j]! = (encP (xs.toArray[j / 2]!))[j % 2]! := by
 unfold flatK
 have hs : j < xs.toArray.size * 2 := by simpa using hj
 simp [hs, hj]
theorem flatK_size (xs : List Piece) : (flatK encP 2 xs.toArray).size = xs.length * 2 := by simp [flatK]
theorem holdsK_of {w : World} {b : Nat} {E : TypeId} {xs : List Piece} {sp : List Value} (hB : Blk w b E (flatP xs ++ sp)) : HoldsK encP 2 w b 0 xs.toArray := by
 intro j hj
 rw [flatK_size] at hj
 have hl := flatP_length xs
 refine ⟨?_, ?_⟩
 ·rw [Nat.zero_add, hB.cell, List.getElem?_append_left (by omega), flatP_get xs j hj, flatK_get xs j hj]
  rfl
 ·rw [Nat.zero_add]
  exact hB.thawed j (by rw [List.length_append]; omega)
theorem putCells_list (xs ys : List Piece) (sp : List Value) (hl : ys.length = xs.length) : Sort.putCells id 0 (flatK encP 2 ys.toArray) (flatP xs ++ sp).toArray = (flatP ys ++ sp).toArray := by
 have h1 := flatP_length xs
 have h2 := flatP_length ys
 apply Array.ext_getElem?
 intro k
 unfold Sort.putCells
 rw [Array.getElem?_mapIdx]
 simp only [List.getElem?_toArray]
 rcases Nat.lt_or_ge k (ys.length * 2) with h | h
 ·rw [List.getElem?_append_left (by omega), List.getElem?_append_left (by omega), flatP_get ys k h, List.getElem?_eq_getElem (by omega)]
  simp only [Option.map_some]
  rw [if_pos ⟨Nat.zero_le _, by rw [flatK_size]; omega⟩]
  simp only [id, Nat.sub_zero]
  rw [flatK_get ys k h]
 ·rw [List.getElem?_append_right (by omega), List.getElem?_append_right (by omega), h1, h2, hl]
  cases hsp : sp[k - xs.length * 2]? with
  | none => rfl
  | some x =>
   simp only [Option.map_some]
   rw [if_neg (by rw [flatK_size]; omega)]
theorem sorted_world {w w' : World} {b n : Nat} {E : TypeId} {xs ys : List Piece} {sp : List Value} {os : Array Obj} (hs : Same w w') (hB : Blk w b E (flatP xs ++ sp)) (hl : ys.length = xs.length) :
  Blk (sortWorldK encP 2 w' b 0 n ys.toArray os) b E (flatP ys ++ sp) ∧ Ext (· = b) w (sortWorldK encP 2 w' b 0 n ys.toArray os) := by
 have hlt := hB.lt
 have hB' : Blk w' b E (flatP xs ++ sp) := hB.keep (by rw [hs.heap])
 obtain ⟨fr, hh, hfz⟩ := hB'.heap
 have hlen : (flatP ys ++ sp).length = (flatP xs ++ sp).length := by rw [List.length_append, List.length_append, flatP_length, flatP_length, hl]
 have hsz : w'.heap.size = w.heap.size := by rw [hs.heap]
 have hheap : ∀ k, k < w.heap.size → (sortWorldK encP 2 w' b 0 n ys.toArray os).heap[k]? = if k = b then some (.cells (flatP ys ++ sp).toArray E fr) else w'.heap[k]? := by
  intro k hk
  show ((w'.heap.modify b _) ++ os)[k]? = _
  rw [Array.getElem?_append_left (by simp; omega), Array.getElem?_modify]
  by_cases hkb : b = k
  ·subst hkb
   rw [if_pos rfl, if_pos rfl, hh]
   simp only [Option.map_some, onCells]
   rw [putCells_list xs ys sp hl]
  ·rw [if_neg hkb, if_neg (fun h => hkb h.symm)]
 refine ⟨?_, ?_⟩
 ·have h0 := hheap b hlt
  rw [if_pos rfl] at h0
  obtain ⟨fr', h1 | h1⟩ := hB'
  ·obtain ⟨h1, h2⟩ := h1
   rw [hh] at h1
   injection h1 with h1
   injection h1 with _ _ h1
   subst h1
   exact ⟨fr, .inl ⟨h0, by rw [hlen]; exact h2⟩⟩
  ·obtain ⟨h1, h2⟩ := h1
   rw [hh] at h1
   injection h1 with h1
   injection h1 with _ _ h1
   subst h1
   exact ⟨fr, .inr ⟨h0, h2⟩⟩
 ·refine ⟨hs.os, hs.tape, hs.output, ?_, fun k hk hn => ?_⟩
  ·show w.heap.size ≤ ((w'.heap.modify b _) ++ os).size
   simp; omega
  ·rw [hheap k hk, if_neg hn, hs.heap]
theorem flat_P {P : Nat → Prop} {w : World} {us : List Value} {xs : List Piece} (h : Each (tPiece.rep P w) us xs) : flat us = flatP xs := by
 induction h with
 | nil => rfl
 | cons h1 _ ih =>
  obtain ⟨rfl, _⟩ := tPiece.val h1
  rw [flat_cons, ih]
  rfl
theorem each_P {P : Nat → Prop} {w : World} : ∀ {xs : List Piece}, (∀ p ∈ xs, (-9223372036854775808 ≤ p.fr ∧ p.fr ≤ 9223372036854775807) ∧ -9223372036854775808 ≤ p.ct ∧ p.ct ≤ 9223372036854775807) → Each (tPiece.rep P w) (xs.map (fun p => .agg #[i64 p.fr, i64 p.ct])) xs
 | [], _ => .nil
 | p :: xs, h => .cons (tPiece.mk (h p (by simp)).1 (h p (by simp)).2) (each_P (fun q hq => h q (List.mem_cons_of_mem _ hq)))
theorem each_range {P : Nat → Prop} {w : World} {us : List Value} {xs : List Piece} (h : Each (tPiece.rep P w) us xs) : ∀ p ∈ xs, (-9223372036854775808 ≤ p.fr ∧ p.fr ≤ 9223372036854775807) ∧ -9223372036854775808 ≤ p.ct ∧ p.ct ≤ 9223372036854775807 := by
 induction h with
 | nil => intro p hp; cases hp
 | cons h1 _ ih =>
  intro p hp
  rcases List.mem_cons.1 hp with rfl | hp
  ·exact (tPiece.val h1).2
  ·exact ih p hp
end room
end Go.Proofs.YtpfehnopghffjaaGreatDoor
namespace Go.Proofs.YtpfehnopghffjaaGreatDoor
open Go Go.Proofs Go.Shelf Go.RowKit Go.Lib Go.Sort
def sortP_ren : Go.Shelf.Ren := ⟨fun | 6 => 151 | 14 => 173 | 15 => 134 | 20 => 183 | 21 => 184 | 22 => 185 | 23 => 186 | 24 => 187 | 25 => 188 | 26 => 189 | 27 => 190 | 28 => 163 | 29 => 164 | 46 => 196 | 47 => 176 | 48 => 177 | 49 => 197 | 50 => 198 | 57 => 200 | n => n, fun | 0 => 0 | 3 => 3 | 4 => 4 | 5 => 5 | 9 => 9 | 22 => 26 | 24 => 40 | 25 => 223 | 39 => 177 | 45 => 225 | 46 => 226 | 50 => 230 | 53 => 233 | 55 => 99 | 66 => 253 | 70 => 257 | 76 => 265 | 77 => 56 | n => n, fun n => n⟩
theorem sortP : SlLaysF0.n6 Tryz.prog sortP_ren where
 mixed := by kernel_rfl
 f6 := ⟨ "slices.SortFunc[[]docket/api.Piece,docket/api.Piece]", by decide, Tryz.func151.trans (congrArg some (by kernel_rfl))⟩
 f14 := ⟨ "slices.pdqsortCmpFunc[docket/api.Piece]", by decide, Tryz.func173.trans (congrArg some (by kernel_rfl))⟩
 f15 := Tryz.func134.trans (congrArg some (by kernel_rfl))
 f20 := ⟨ "slices.insertionSortCmpFunc[docket/api.Piece]", by decide, Tryz.func183.trans (congrArg some (by kernel_rfl))⟩
 f21 := ⟨ "slices.heapSortCmpFunc[docket/api.Piece]", by decide, Tryz.func184.trans (congrArg some (by kernel_rfl))⟩
 f22 := ⟨ "slices.breakPatternsCmpFunc[docket/api.Piece]", by decide, Tryz.func185.trans (congrArg some (by kernel_rfl))⟩
 f23 := ⟨ "slices.choosePivotCmpFunc[docket/api.Piece]", by decide, Tryz.func186.trans (congrArg some (by kernel_rfl))⟩
 f24 := ⟨ "slices.reverseRangeCmpFunc[docket/api.Piece]", by decide, Tryz.func187.trans (congrArg some (by kernel_rfl))⟩
 f25 := ⟨ "slices.partialInsertionSortCmpFunc[docket/api.Piece]", by decide, Tryz.func188.trans (congrArg some (by kernel_rfl))⟩
 f26 := ⟨ "slices.partitionEqualCmpFunc[docket/api.Piece]", by decide, Tryz.func189.trans (congrArg some (by kernel_rfl))⟩
 f27 := ⟨ "slices.partitionCmpFunc[docket/api.Piece]", by decide, Tryz.func190.trans (congrArg some (by kernel_rfl))⟩
 f28 := Tryz.func163.trans (congrArg some (by kernel_rfl))
 f29 := Tryz.func164.trans (congrArg some (by kernel_rfl))
 f46 := ⟨ "slices.siftDownCmpFunc[docket/api.Piece]", by decide, Tryz.func196.trans (congrArg some (by kernel_rfl))⟩
 f47 := Tryz.func176.trans (congrArg some (by kernel_rfl))
 f48 := Tryz.func177.trans (congrArg some (by kernel_rfl))
 f49 := ⟨ "slices.medianAdjacentCmpFunc[docket/api.Piece]", by decide, Tryz.func197.trans (congrArg some (by kernel_rfl))⟩
 f50 := ⟨ "slices.medianCmpFunc[docket/api.Piece]", by decide, Tryz.func198.trans (congrArg some (by kernel_rfl))⟩
 f57 := ⟨ "slices.order2CmpFunc[docket/api.Piece]", by decide, Tryz.func200.trans (congrArg some (by kernel_rfl))⟩
 t0 := Tryz.underlying0
 a0 := Tryz.isAgg0
 z0 := Tryz.sizeOf0
 v0 := Tryz.zeroValue0
 t3 := Tryz.underlying3
 a3 := Tryz.isAgg3
 z3 := Tryz.sizeOf3
 v3 := Tryz.zeroValue3
 t4 := Tryz.underlying4
 a4 := Tryz.isAgg4
 z4 := Tryz.sizeOf4
 v4 := Tryz.zeroValue4
 t5 := Tryz.underlying5
 a5 := Tryz.isAgg5
 z5 := Tryz.sizeOf5
 v5 := Tryz.zeroValue5
 t9 := Tryz.underlying9
 a9 := Tryz.isAgg9
 z9 := Tryz.sizeOf9
 v9 := Tryz.zeroValue9
 t22 := Tryz.underlying26
 a22 := Tryz.isAgg26
 z22 := Tryz.sizeOf26
 v22 := Tryz.zeroValue26
 t25 := Tryz.underlying223
 a25 := Tryz.isAgg223
 z25 := Tryz.sizeOf223
 v25 := Tryz.zeroValue223
 t39 := Tryz.underlying177
 a39 := Tryz.isAgg177
 z39 := Tryz.sizeOf177
 v39 := Tryz.zeroValue177
 t45 := Tryz.underlying225
 a45 := Tryz.isAgg225
 z45 := Tryz.sizeOf225
 v45 := Tryz.zeroValue225
 t46 := Tryz.underlying226
 a46 := Tryz.isAgg226
 z46 := Tryz.sizeOf226
 v46 := Tryz.zeroValue226
 t50 := Tryz.underlying230
 a50 := Tryz.isAgg230
 z50 := Tryz.sizeOf230
 v50 := Tryz.zeroValue230
 t53 := Tryz.underlying233
 a53 := Tryz.isAgg233
 z53 := Tryz.sizeOf233
 v53 := Tryz.zeroValue233
 t55 := Tryz.underlying99
 a55 := Tryz.isAgg99
 z55 := Tryz.sizeOf99
 v55 := Tryz.zeroValue99
 t66 := Tryz.underlying253
 a66 := Tryz.isAgg253
 z66 := Tryz.sizeOf253
 v66 := Tryz.zeroValue253
 t70 := Tryz.underlying257
 a70 := Tryz.isAgg257
 z70 := Tryz.sizeOf257
 v70 := Tryz.zeroValue257
 t76 := Tryz.underlying265
 a76 := Tryz.isAgg265
 z76 := Tryz.sizeOf265
 v76 := Tryz.zeroValue265
 t77 := Tryz.underlying56
 a77 := Tryz.isAgg56
 z77 := Tryz.sizeOf56
 v77 := Tryz.zeroValue56
def cmpP_ren : Go.Shelf.Ren := ⟨fun | 5 => 153 | 7 => 174 | n => n, fun | 3 => 3 | 4 => 4 | 22 => 3 | n => n, fun n => n⟩
theorem cmpP : SlLaysC2.n5 Tryz.prog cmpP_ren where
 mixed := by kernel_rfl
 f5 := ⟨ "cmp.Compare[int]", by decide, Tryz.func153.trans (congrArg some (by kernel_rfl))⟩
 f7 := ⟨ "cmp.isNaN[int]", by decide, Tryz.func174.trans (congrArg some (by kernel_rfl))⟩
 t3 := Tryz.underlying3
 a3 := Tryz.isAgg3
 z3 := Tryz.sizeOf3
 v3 := Tryz.zeroValue3
 t4 := Tryz.underlying4
 a4 := Tryz.isAgg4
 z4 := Tryz.sizeOf4
 v4 := Tryz.zeroValue4
 t22 := Tryz.underlying3
 a22 := Tryz.isAgg3
 z22 := Tryz.sizeOf3
 v22 := Tryz.zeroValue3
namespace room
theorem ltFr (x y : Piece) : ltOf (fun x y : Piece => Lib.compareInt x.fr y.fr) x y = decide (x.fr < y.fr) := by
 unfold ltOf Lib.compareInt
 by_cases h1 : x.fr < y.fr
 ·simp [h1]
 ·by_cases h2 : y.fr < x.fr <;> simp [h1, h2]
theorem swoFr : SWO (ltOf fun x y : Piece => Lib.compareInt x.fr y.fr) where
 irrefl x := by rw [ltFr]; simp
 trans x y z h1 h2 := by rw [ltFr] at *; simp at *; omega
 ntrans x y z h1 h2 := by rw [ltFr] at *; simp at *; omega
set_option maxHeartbeats 1000000 in
theorem closureP (x y : Piece) (W : World) : Calls Tryz.prog 152 #[.agg #[.int .i64 x.fr, .int .i64 x.ct], .agg #[.int .i64 y.fr, .int .i64 y.ct]] W fun e w' => e = .returned (.int .i64 (Lib.compareInt x.fr y.fr)) ∧ ∃ q os', w' = grow (W.drewN q) os' := by
 have hcon := fun W' => AnyG.cmp_Compare_int cmpP x.fr y.fr W'
 change ∀ W', Calls Tryz.prog 153 _ _ _ at hcon
 generalize Lib.compareInt x.fr y.fr = r at hcon ⊢
 go_enter Tryz.func152, Tryz.ntmps152
 go_wp2_with (go_at_call 153; refine (hcon _).mono ?_; rintro e w' ⟨rfl, rfl⟩)
 go_ret
 exact ⟨rfl, 0, _, by rw [alloc_eq_grow, alloc_eq_grow, grow_grow]; rfl⟩
theorem cmpLaysP (blk off size : Nat) (w : World) : CmpLays Tryz.prog 152 #[] encP 2 (fun x y : Piece => Lib.compareInt x.fr y.fr) blk off size w :=
 fun _ _ _ _ x y => closureP x y _
end room
open room
theorem SortFunc_fn {w : World} {v : Value} {xs : List Piece} {B : Nat → Prop} (hO : OwnO tPiece (fun _ => False) 40 w v xs B) : Fn Tryz.prog 151 [v, .func (.func 152) #[] #[]] w (fun r w2 => r = .tuple #[] ∧ ∃ ys, ys.Perm xs ∧ ys.Pairwise (fun p q => p.fr ≤ q.fr) ∧ OwnO tPiece (fun _ => False) 40 w2 v ys B ∧ Ext B w w2) := by
 rcases hO with ⟨rfl, rfl⟩ | ⟨b, hb, hlt, hl, ⟨rfl, rfl⟩ | ⟨cap, us, sp, rfl, hc, he, hB, hn⟩⟩
 ·refine ⟨fun w' => Tryz.call151 _ w', fun w' hw => ?_⟩
  have h := AnyF.slices_SortFunc_none sortP none 0 (.func (.func 152) #[] #[]) w'
  refine Calls.mono h ?_
  rintro e w2 ⟨rfl, rfl⟩
  exact ⟨_, w, hw, rfl, rfl, [], .nil, .nil, OwnO.nil, .refl _⟩
 ·refine ⟨fun w' => Tryz.call151 _ w', fun w' hw => ?_⟩
  have h := AnyF.slices_SortFunc_none sortP none 0 (.func (.func 152) #[] #[]) w'
  refine Calls.mono h ?_
  rintro e w2 ⟨rfl, rfl⟩
  exact ⟨_, w, hw, rfl, rfl, [], .nil, .nil, OwnO.nil, .refl _⟩
 ·refine ⟨fun w' => Tryz.call151 _ w', fun w' hw => ?_⟩
  have hfl := flat_P he
  have hrg := each_range he
  rw [hfl] at hB hn
  have hB' : Blk w' b 40 (flatP xs ++ sp) := hB.keep (by rw [hw.heap])
  have eg : ∀ args w, (callFunc 152 args).run Tryz.prog w = .ok (.enter 152 args) w := enters_of Tryz.func152 (by kernel_rfl) rfl
  have hcon := AnyQ.slices_SortFunc sortP 2 Tryz.isAgg40 Tryz.sizeOf40 encP (fun _ => rfl) (fun x v hv => by simp [encP] at hv; rcases hv with rfl | rfl <;> rfl) (fun x y : Piece => Lib.compareInt x.fr y.fr) swoFr 152 #[] b 0 cap xs.toArray w' eg (cmpLaysP b 0 xs.toArray.size w') (holdsK_of hB') hB'.lt (by simp only [Lim] at hl; simp; omega)
  refine Calls.mono hcon ?_
  rintro e w2 ⟨rfl, d', n, os, hp, hs, rfl⟩
  obtain ⟨p1, p2, p3⟩ := hp
  obtain ⟨ys, rfl⟩ : ∃ ys : List Piece, d' = ys.toArray := ⟨d'.toList, by simp⟩
  have hlen : ys.length = xs.length := by simpa using p1
  have hperm : ys.Perm xs := by
   have e1 : (ys.toArray.extract 0 xs.toArray.size).toList = ys := by simp [← hlen]
   have e2 : (xs.toArray.extract 0 xs.toArray.size).toList = xs := by simp
   rw [e1, e2] at p3
   exact p3
  have hsorted : ys.Pairwise (fun p q => p.fr ≤ q.fr) := by
   rw [List.pairwise_iff_getElem]
   intro i j hi hj hij
   have h := hs i j (Nat.zero_le _) hij (by simpa [hlen] using hj)
   rw [ltFr] at h
   have e1 : ys.toArray[i]! = ys[i] := by simp [hi]
   have e2 : ys.toArray[j]! = ys[j] := by simp [hj]
   rw [e1, e2] at h
   have h := of_decide_eq_false h
   omega
  obtain ⟨g1, g2⟩ := sorted_world (n := n) (os := os) hw hB hlen
  have hry : ∀ p ∈ ys, (-9223372036854775808 ≤ p.fr ∧ p.fr ≤ 9223372036854775807) ∧ -9223372036854775808 ≤ p.ct ∧ p.ct ≤ 9223372036854775807 := fun p hp => hrg p (hperm.mem_iff.1 hp)
  have hey := each_P (P := fun _ => False) (w := sortWorldK encP 2 w' b 0 n ys.toArray os) hry
  refine ⟨_, _, .refl _, rfl, rfl, ys, hperm, hsorted, .inr ⟨b, hb, g1.lt, by rw [hlen]; exact hl, .inr ⟨cap, _, sp, by rw [hlen], by rw [hlen]; exact hc, hey, by rw [flat_P hey]; exact g1, ?_⟩⟩, g2.mono (by rintro k _ rfl; exact hb)⟩
  rw [flat_P hey, List.length_append, flatP_length, hlen, ← hn, List.length_append, flatP_length]
end Go.Proofs.YtpfehnopghffjaaGreatDoor
namespace Go.Proofs.YtpfehnopghffjaaGreatDoor
open Go
namespace room
def covB (l : List Piece) (k : Nat) : Bool := l.any (fun p => decide (p.fr ≤ (k : Int) ∧ (k : Int) < p.fr + p.ct))
theorem cov_iff {l : List Piece} {k : Nat} : covB l k = true ↔ ∃ p ∈ l, p.fr ≤ (k : Int) ∧ (k : Int) < p.fr + p.ct := by simp [covB]
theorem cov_perm {l s : List Piece} (h : s.Perm l) (k : Nat) : covB s k = covB l k := by
 rw [Bool.eq_iff_iff, cov_iff, cov_iff]
 constructor
 ·rintro ⟨p, hp, h2⟩; exact ⟨p, h.mem_iff.1 hp, h2⟩
 ·rintro ⟨p, hp, h2⟩; exact ⟨p, h.mem_iff.2 hp, h2⟩
def pushR (out : List Piece) (k : Int) : List Piece :=
 match out.getLast? with
 | some p => if p.fr + p.ct = k then out.dropLast ++ [⟨p.fr, p.ct + 1⟩] else out ++ [⟨k, 1⟩]
 | none => [⟨k, 1⟩]
def runsTo (f : Nat → Bool) (a : Nat) : Nat → List Piece
 | 0 => []
 | n + 1 => if f (a + n) = true then pushR (runsTo f a n) ((a + n : Nat) : Int) else runsTo f a n
theorem push_nil (k : Int) : pushR [] k = [⟨k, 1⟩] := rfl
theorem push_snoc (out : List Piece) (p : Piece) (k : Int) : pushR (out ++ [p]) k = if p.fr + p.ct = k then out ++ [⟨p.fr, p.ct + 1⟩] else out ++ [p] ++ [⟨k, 1⟩] := by
 unfold pushR
 rw [List.getLast?_append]
 simp
structure Runs (f : Nat → Bool) (a n : Nat) (out : List Piece) : Prop where
 pos : ∀ p ∈ out, 1 ≤ p.ct ∧ (a : Int) ≤ p.fr ∧ p.fr + p.ct ≤ ((a + n : Nat) : Int)
 sep : out.Pairwise (fun p q => p.fr + p.ct < q.fr)
 cov : ∀ k, covB out k = (decide (a ≤ k ∧ k < a + n) && f k)
theorem cov_append (l m : List Piece) (k : Nat) : covB (l ++ m) k = (covB l k || covB m k) := by simp [covB]
theorem cov_one (p : Piece) (k : Nat) : covB [p] k = decide (p.fr ≤ (k : Int) ∧ (k : Int) < p.fr + p.ct) := by simp [covB]
theorem runs_ok (f : Nat → Bool) (a : Nat) : ∀ n, Runs f a n (runsTo f a n)
 | 0 => ⟨fun p hp => (by cases hp), .nil, fun k => (by simp only [runsTo, covB, List.any_nil]; rw [decide_eq_false (by omega), Bool.false_and])⟩
 | n + 1 => by
  have ih := runs_ok f a n
  rw [runsTo]
  by_cases hf : f (a + n) = true
  ·rw [if_pos hf]
   rcases List.eq_nil_or_concat (runsTo f a n) with h | ⟨out, p, h⟩
   ·rw [h] at ih ⊢
    rw [push_nil]
    refine ⟨fun q hq => ?_, List.pairwise_singleton _ _, fun k => ?_⟩
    ·rw [List.mem_singleton] at hq; subst hq; exact ⟨by show (1 : Int) ≤ 1; omega, by show (a : Int) ≤ ((a + n : Nat) : Int); omega, by show ((a + n : Nat) : Int) + 1 ≤ ((a + (n + 1) : Nat) : Int); omega⟩
    ·have h0 := ih.cov k
     rw [show covB [] k = false from rfl] at h0
     rw [cov_one]
     show decide (((a + n : Nat) : Int) ≤ (k : Int) ∧ (k : Int) < ((a + n : Nat) : Int) + 1) = _
     by_cases hk : k = a + n
     ·subst hk; rw [decide_eq_true (by omega), decide_eq_true (by omega), hf]; rfl
     ·by_cases h1 : a ≤ k ∧ k < a + n
      ·have h2 : f k = false := by simpa [h1] using h0.symm
       rw [h2, Bool.and_false]; exact decide_eq_false (by omega)
      ·rw [decide_eq_false (show ¬ (a ≤ k ∧ k < a + (n + 1)) by omega), Bool.false_and]; exact decide_eq_false (by omega)
   ·rw [List.concat_eq_append] at h
    rw [h] at ih ⊢
    rw [push_snoc]
    obtain ⟨hp1, hp2, hp3⟩ := ih.pos p (by simp)
    have hsep := List.pairwise_append.1 ih.sep
    by_cases hpk : p.fr + p.ct = ((a + n : Nat) : Int)
    ·rw [if_pos hpk]
     refine ⟨fun q hq => ?_, ?_, fun k => ?_⟩
     ·rcases List.mem_append.1 hq with hq | hq
      ·have := ih.pos q (by simp [hq]); exact ⟨this.1, this.2.1, by omega⟩
      ·rw [List.mem_singleton] at hq; subst hq; exact ⟨by show 1 ≤ p.ct + 1; omega, hp2, by show p.fr + (p.ct + 1) ≤ _; omega⟩
     ·refine List.pairwise_append.2 ⟨hsep.1, List.pairwise_singleton _ _, fun x hx y hy => ?_⟩
      rw [List.mem_singleton] at hy; subst hy
      exact hsep.2.2 x hx p (by simp)
     ·have h0 := ih.cov k
      rw [cov_append, cov_one] at h0 ⊢
      by_cases hk : k = a + n
      ·subst hk
       rw [decide_eq_true (show (⟨p.fr, p.ct + 1⟩ : Piece).fr ≤ ((a + n : Nat) : Int) ∧ ((a + n : Nat) : Int) < (⟨p.fr, p.ct + 1⟩ : Piece).fr + (⟨p.fr, p.ct + 1⟩ : Piece).ct by simp only; omega), Bool.or_true, decide_eq_true (show a ≤ a + n ∧ a + n < a + (n + 1) by omega), hf]; rfl
      ·have e1 : decide ((⟨p.fr, p.ct + 1⟩ : Piece).fr ≤ (k : Int) ∧ (k : Int) < (⟨p.fr, p.ct + 1⟩ : Piece).fr + (⟨p.fr, p.ct + 1⟩ : Piece).ct) = decide (p.fr ≤ (k : Int) ∧ (k : Int) < p.fr + p.ct) := decide_eq_decide.2 (by simp only; omega)
       have e2 : decide (a ≤ k ∧ k < a + (n + 1)) = decide (a ≤ k ∧ k < a + n) := decide_eq_decide.2 (by omega)
       rw [e1, e2, h0]
    ·rw [if_neg hpk]
     refine ⟨fun q hq => ?_, ?_, fun k => ?_⟩
     ·rcases List.mem_append.1 hq with hq | hq
      ·have := ih.pos q hq; exact ⟨this.1, this.2.1, by omega⟩
      ·rw [List.mem_singleton] at hq; subst hq; exact ⟨by show (1 : Int) ≤ 1; omega, by show (a : Int) ≤ ((a + n : Nat) : Int); omega, by show ((a + n : Nat) : Int) + 1 ≤ ((a + (n + 1) : Nat) : Int); omega⟩
     ·refine List.pairwise_append.2 ⟨ih.sep, List.pairwise_singleton _ _, fun x hx y hy => ?_⟩
      rw [List.mem_singleton] at hy; subst hy
      show x.fr + x.ct < ((a + n : Nat) : Int)
      rcases List.mem_append.1 hx with hx | hx
      ·have := hsep.2.2 x hx p (by simp); omega
      ·rw [List.mem_singleton] at hx; subst hx; omega
     ·have h0 := ih.cov k
      rw [cov_append, h0, cov_one]
      show (_ || decide (((a + n : Nat) : Int) ≤ (k : Int) ∧ (k : Int) < ((a + n : Nat) : Int) + 1)) = _
      by_cases hk : k = a + n
      ·subst hk
       rw [decide_eq_true (show ((a + n : Nat) : Int) ≤ ((a + n : Nat) : Int) ∧ ((a + n : Nat) : Int) < ((a + n : Nat) : Int) + 1 by omega), Bool.or_true, decide_eq_true (show a ≤ a + n ∧ a + n < a + (n + 1) by omega), hf]; rfl
      ·rw [decide_eq_false (show ¬ (((a + n : Nat) : Int) ≤ (k : Int) ∧ (k : Int) < ((a + n : Nat) : Int) + 1) by omega), Bool.or_false]
       congr 1
       exact decide_eq_decide.2 (by omega)
  ·rw [if_neg hf]
   refine ⟨fun q hq => ?_, ih.sep, fun k => ?_⟩
   ·have := ih.pos q hq; exact ⟨this.1, this.2.1, by omega⟩
   ·rw [ih.cov k]
    by_cases hk : k = a + n
    ·subst hk
     have : f (a + n) = false := by simpa using hf
     rw [this, Bool.and_false, Bool.and_false]
    ·congr 1
     exact decide_eq_decide.2 (by omega)
theorem runs_skip {f : Nat → Bool} {a n : Nat} : ∀ {m : Nat}, (∀ k, n ≤ k → k < n + m → f (a + k) = false) → runsTo f a (n + m) = runsTo f a n
 | 0, _ => rfl
 | m + 1, h => by
  rw [← Nat.add_assoc, runsTo, if_neg (by rw [h (n + m) (by omega) (by omega)]; decide)]
  exact runs_skip (fun k h1 h2 => h k h1 (by omega))
theorem runs_more {f : Nat → Bool} {a n : Nat} (hl : ∀ p ∈ runsTo f a n, p.fr + p.ct < ((a + n : Nat) : Int)) : ∀ {m : Nat}, (∀ k, n ≤ k → k < n + (m + 1) → f (a + k) = true) → runsTo f a (n + (m + 1)) = runsTo f a n ++ [⟨((a + n : Nat) : Int), ((m + 1 : Nat) : Int)⟩]
 | 0, h => by
  rw [Nat.zero_add, runsTo, if_pos (h n (by omega) (by omega))]
  rcases List.eq_nil_or_concat (runsTo f a n) with h0 | ⟨out, p, h0⟩
  ·rw [h0]; rfl
  ·rw [List.concat_eq_append] at h0
   rw [h0] at hl ⊢
   have := hl p (by simp)
   rw [push_snoc, if_neg (by omega)]
   rfl
 | m + 1, h => by
  rw [show n + (m + 1 + 1) = (n + (m + 1)) + 1 by omega, runsTo, if_pos (h (n + (m + 1)) (by omega) (by omega)), runs_more hl (m := m) (fun k h1 h2 => h k h1 (by omega)), push_snoc, if_pos (by show ((a + n : Nat) : Int) + ((m + 1 : Nat) : Int) = ((a + (n + (m + 1)) : Nat) : Int); omega)]
  rfl
def freeF (first count : Nat) (l : List Piece) : List Piece := runsTo (fun k => !covB l k) first (count - first)
def freeE (first count : Int) (l : List Piece) : Int := if count < 0 ∨ 4096 < count ∨ first < 0 ∨ count < first then 2 else checkR count l
end room
end Go.Proofs.YtpfehnopghffjaaGreatDoor
namespace Go.Proofs.YtpfehnopghffjaaGreatDoor
open Go
namespace room
theorem covB_false {q : List Piece} {k : Nat} (h : ∀ p ∈ q, ¬ (p.fr ≤ (k : Int) ∧ (k : Int) < p.fr + p.ct)) : covB q k = false := by
 cases hc : covB q k
 ·rfl
 ·obtain ⟨p, hp, h2⟩ := cov_iff.1 hc
  exact absurd h2 (h p hp)
theorem rises_get {q : List Piece} (hr : Rises q) {i j : Nat} (hij : i < j) (hj : j < q.length) : (q[i]'(by omega)).fr + (q[i]'(by omega)).ct ≤ q[j].fr := List.pairwise_iff_getElem.1 hr i j (by omega) hj hij
structure Wk (f : Nat → Bool) (first : Nat) (q : List Piece) (i : Nat) (at_ : Nat) (out : List Piece) : Prop where
 le : first ≤ at_
 eq : out = runsTo f first (at_ - first)
 edge : i < q.length → at_ = first ∨ covB q (at_ - 1) = true
 ends : ∀ p ∈ q.take i, p.fr + p.ct ≤ (at_ : Int)
section
variable {first i at_ : Nat} {q out : List Piece}
theorem Wk.gap {f : Nat → Bool} (W : Wk f first q i at_ out) (hr : Rises q) (hc0 : ∀ p ∈ q, 0 ≤ p.ct) (hi : i < q.length) {k : Nat} (h1 : at_ ≤ k) (h2 : (k : Int) < q[i].fr) : covB q k = false := by
 refine covB_false (fun x hx hh => ?_)
 obtain ⟨j, hj, rfl⟩ := List.getElem_of_mem hx
 rcases Nat.lt_trichotomy j i with hji | hji | hji
 ·have := W.ends q[j] (List.mem_take_iff_getElem.2 ⟨j, by omega, rfl⟩)
  omega
 ·subst hji; omega
 ·have := rises_get hr hji hj
  have := hc0 q[i] (List.getElem_mem hi)
  omega
theorem Wk.begin (f : Nat → Bool) (first : Nat) (q : List Piece) : Wk f first q 0 first [] := ⟨Nat.le_refl _, by rw [Nat.sub_self]; rfl, fun _ => .inl rfl, fun p hp => by cases hp⟩
theorem Wk.free (W : Wk (fun k => !covB q k) first q i at_ out) (hr : Rises q) (hc0 : ∀ p ∈ q, 0 ≤ p.ct) (hct : ∀ j (h : j + 1 < q.length), 1 ≤ q[j].ct) (hi : i < q.length) :
  Wk (fun k => !covB q k) first q (i + 1) (max (at_ : Int) (q[i].fr + q[i].ct)).toNat (if (at_ : Int) < q[i].fr then out ++ [⟨(at_ : Int), q[i].fr - at_⟩] else out) := by
 have hc := hc0 q[i] (List.getElem_mem hi)
 have hle := W.le
 have hm : ((max (at_ : Int) (q[i].fr + q[i].ct)).toNat : Int) = max (at_ : Int) (q[i].fr + q[i].ct) := Int.toNat_of_nonneg (by omega)
 have hin : ∀ k : Nat, q[i].fr ≤ (k : Int) → (k : Int) < q[i].fr + q[i].ct → covB q k = true := fun k h1 h2 => cov_iff.2 ⟨q[i], List.getElem_mem hi, h1, h2⟩
 refine ⟨by omega, ?_, fun h => ?_, fun p hp => ?_⟩
 ·by_cases hg : (at_ : Int) < q[i].fr
  ·rw [if_pos hg, W.eq]
   obtain ⟨m, hm2⟩ : ∃ m : Nat, q[i].fr = (at_ : Int) + ((m + 1 : Nat) : Int) := ⟨(q[i].fr - at_).toNat - 1, by omega⟩
   have e1 : (max (at_ : Int) (q[i].fr + q[i].ct)).toNat - first = (at_ - first + (m + 1)) + q[i].ct.toNat := by omega
   have hgap : ∀ k, at_ - first ≤ k → k < at_ - first + (m + 1) → (fun k => !covB q k) (first + k) = true := fun k h1 h2 => by
    show (!covB q (first + k)) = true
    rw [W.gap hr hc0 hi (k := first + k) (by omega) (by omega)]; rfl
   have hskip : ∀ k, (at_ - first + (m + 1)) ≤ k → k < (at_ - first + (m + 1)) + q[i].ct.toNat → (fun k => !covB q k) (first + k) = false := fun k h1 h2 => by
    show (!covB q (first + k)) = false
    rw [hin (first + k) (by omega) (by omega)]; rfl
   rw [e1, runs_skip hskip, runs_more ?_ hgap]
   ·have e3 : ((first + (at_ - first) : Nat) : Int) = (at_ : Int) := by omega
    rw [e3, show q[i].fr - (at_ : Int) = ((m + 1 : Nat) : Int) by omega]
   ·intro p hp
    have R := runs_ok (fun k => !covB q k) first (at_ - first)
    obtain ⟨p1, p2, p3⟩ := R.pos p hp
    rcases W.edge hi with he | he
    ·omega
    ·rcases Int.lt_or_eq_of_le p3 with h | h
     ·exact h
     ·have hk := R.cov (at_ - 1)
      rw [cov_iff.2 ⟨p, hp, by omega, by omega⟩, he] at hk
      simp at hk
  ·rw [if_neg hg, W.eq]
   by_cases hc : (at_ : Int) < q[i].fr + q[i].ct
   ·have e1 : (max (at_ : Int) (q[i].fr + q[i].ct)).toNat - first = (at_ - first) + ((q[i].fr + q[i].ct).toNat - at_) := by omega
    have hskip : ∀ k, (at_ - first) ≤ k → k < (at_ - first) + ((q[i].fr + q[i].ct).toNat - at_) → (fun k => !covB q k) (first + k) = false := fun k h1 h2 => by
     show (!covB q (first + k)) = false
     rw [hin (first + k) (by omega) (by omega)]; rfl
    rw [e1, runs_skip hskip]
   ·rw [show (max (at_ : Int) (q[i].fr + q[i].ct)).toNat = at_ by omega]
 ·by_cases hc : (at_ : Int) < q[i].fr + q[i].ct
  ·have h1 := hct i h
   refine .inr (hin _ (by omega) (by omega))
  ·rw [show (max (at_ : Int) (q[i].fr + q[i].ct)).toNat = at_ by omega]
   exact W.edge hi
 ·rw [List.take_succ_eq_append_getElem hi] at hp
  rcases List.mem_append.1 hp with hp | hp
  ·have := W.ends p hp; omega
  ·rw [List.mem_singleton] at hp; subst hp; omega
end
def totalF : List Piece → Int
 | [] => 0
 | p :: l => p.ct + totalF l
theorem total_append (a b : List Piece) : totalF (a ++ b) = totalF a + totalF b := by
 induction a with
 | nil => simp [totalF]
 | cons p a ih => simp only [List.cons_append, totalF, ih]; omega
theorem total_take {l : List Piece} {i : Nat} (h : i < l.length) : totalF (l.take (i + 1)) = totalF (l.take i) + l[i].ct := by
 rw [List.take_succ_eq_append_getElem h, total_append]
 simp [totalF]
theorem total_bd {M : Int} (hM : 0 ≤ M) : ∀ {l : List Piece}, (∀ p ∈ l, 0 ≤ p.ct ∧ p.ct ≤ M) → 0 ≤ totalF l ∧ totalF l ≤ l.length * M
 | [], _ => by simp [totalF]
 | p :: l, h => by
  have ih := total_bd hM (l := l) (fun q hq => h q (List.mem_cons_of_mem _ hq))
  have h0 := h p (by simp)
  simp only [totalF, List.length_cons]
  have e : ((l.length + 1 : Nat) : Int) * M = l.length * M + M := by rw [Int.natCast_add, Int.add_mul]; simp
  rw [e]
  omega
theorem total_pos : ∀ {l : List Piece}, (∀ p ∈ l, 1 ≤ p.ct) → 0 ≤ totalF l
 | [], _ => Int.le_refl _
 | p :: l, h => by
  have h0 := h p (by simp)
  have := total_pos (l := l) (fun q hq => h q (List.mem_cons_of_mem _ hq))
  simp only [totalF]
  omega
def takeF : List Piece → Int → List Piece
 | [], _ => []
 | p :: l, m => if m = 0 then [] else ⟨p.fr, min p.ct m⟩ :: takeF l (m - min p.ct m)
theorem take_all : ∀ {l : List Piece} {m : Int}, (∀ p ∈ l, 1 ≤ p.ct) → totalF l ≤ m → takeF l m = l
 | [], _, _, _ => rfl
 | p :: l, m, h, hm => by
  have h0 := h p (by simp)
  simp only [totalF] at hm
  have hl : 0 ≤ totalF l := total_pos (fun q hq => h q (List.mem_cons_of_mem _ hq))
  rw [takeF, if_neg (by omega), show min p.ct m = p.ct by omega, take_all (fun q hq => h q (List.mem_cons_of_mem _ hq)) (by omega)]
theorem take_more : ∀ {l r : List Piece} {m : Int}, (∀ p ∈ l, 1 ≤ p.ct) → 0 ≤ m → m ≤ totalF l → takeF (l ++ r) m = takeF l m
 | [], r, m, _, h0, hm => by
  simp only [totalF] at hm
  have : m = 0 := by omega
  subst this
  cases r <;> rfl
 | p :: l, r, m, h, h0, hm => by
  simp only [totalF] at hm
  have h1 := h p (by simp)
  rw [List.cons_append, takeF, takeF]
  by_cases hz : m = 0
  ·rw [if_pos hz, if_pos hz]
  ·rw [if_neg hz, if_neg hz, take_more (fun q hq => h q (List.mem_cons_of_mem _ hq)) (by omega) ?_]
   by_cases hh : p.ct ≤ m
   ·rw [show min p.ct m = p.ct by omega]; omega
   ·rw [show min p.ct m = m by omega]
    have : 0 ≤ totalF l := total_pos (fun q hq => h q (List.mem_cons_of_mem _ hq))
    omega
end room
end Go.Proofs.YtpfehnopghffjaaGreatDoor
namespace Go.Proofs.YtpfehnopghffjaaGreatDoor
open Go room
theorem Sl.isNoneP {α : Type} {t : Ty α} {P : Nat → Prop} {w : World} {a : Option Addr} {n cap : Nat} {xs : List α} (h : (Sl t).rep P w (.slice a n cap) xs) (ha : a.isNone = true) : xs = [] := by
 obtain ⟨_, a', cap', e, _, ⟨rfl, _⟩ | ⟨b, o, us, rfl, _⟩⟩ := h
 ·rfl
 ·cases e; cases ha
namespace room
theorem check_8 {count : Int} {l : List Piece} (h1 : ¬ (count < 0 ∨ 4096 < count)) (h2 : ¬ 4096 < l.length) (h3 : ¬ mayP count l) : checkR count l = 8 := by unfold checkR; rw [if_neg h1, if_neg h2, if_neg h3]
theorem check_0 {count : Int} {l : List Piece} (h1 : ¬ (count < 0 ∨ 4096 < count)) (h2 : ¬ 4096 < l.length) (h3 : mayP count l) : checkR count l = 0 := by unfold checkR; rw [if_neg h1, if_neg h2, if_pos h3]
end room
theorem piecesClone_fn {w : World} {v : Value} {l : List Piece} (h : (Sl tPiece).rep All w v l) (hl : l.length ≤ 100000) : Fn Tryz.prog 150 [v] w (fun r w2 => OwnO tPiece (fun _ => False) 40 w2 r l (fun k => w.heap.size ≤ k) ∧ Ext (fun _ => False) w w2) := by
 obtain ⟨a, cap, rfl, hcap⟩ := Sl.val h
 refine Fn.enter (fun w => Tryz.call150 _ w) Tryz.func150 rfl ?_
 refine .seq (.region ?_)
 refine .p rfl rfl (.as rfl) (.nil (.code (.seq (.seq (.keep [(0, _)] ⟨rfl, trivial⟩ (.region ?_))))))
 refine .p rfl rfl (.mv rfl) (.p rfl rfl (.eqNil rfl rfl rfl) (.nil (.code (.keep [(4, _), (0, _)] ⟨rfl, rfl, trivial⟩ ?_))))
 refine .cond rfl (fun c4 => ?_) (fun c4 => ?_)
 ·refine .seq (.keep [] trivial (.region ?_))
  refine .p rfl rfl (.as rfl) (.nil (.code ?_))
  refine .ret _ rfl ?_
  rw [Sl.isNoneP h c4]
  exact ⟨OwnO.nil, .refl _⟩
 ·refine .skip (.code (.seq (.keep [(0, _)] ⟨rfl, trivial⟩ (.region ?_))))
  refine .v rfl rfl (.lits rfl rfl (fun _ => by kernel_rfl)) ?_
  rintro _ w5 ⟨rfl, N5⟩
  refine .p rfl rfl (.mv rfl) (.v rfl rfl (.append (t := tPiece) (Q := fun _ => False) (eb := 16) rfl (Own.ofNew (us := []) N5 .nil (by decide) rfl rfl) rfl (Sl.holds ((Sl tPiece).ext0 h N5.ext) (fun _ _ h => h)) rfl rfl rfl rfl rfl rfl rfl (by simp; omega) (by simp [Lim]; omega) (fun _ h _ => h.elim)) ?_)
  rintro v7 w7 ⟨b7, O7, X7, hb7⟩
  have O7 := O7.mono (Q' := fun _ => False) (fun _ h _ => h.1)
  have Z7 := N5.ext.then X7 (by rintro k rfl _; omega)
  have hz5 := N5.size
  refine .p rfl rfl (.as rfl) (.nil (.code ?_))
  refine .ret _ rfl ?_
  exact ⟨OwnO.of O7 (by show w.heap.size ≤ b7; omega), Z7⟩
theorem rising_fn {w : World} {v : Value} {l : List Piece} {count : Int} (h : (Sl tPiece).rep All w v l) : Fn Tryz.prog 124 [i64 count, v] w (fun r w2 => ∃ v' s, r = .tuple #[v', i64 (checkR count l)] ∧ (checkR count l = 0 → s.Perm l ∧ Rises s) ∧ (¬ checkR count l = 0 → s = []) ∧ OwnO tPiece (fun _ => False) 40 w2 v' s (fun k => w.heap.size ≤ k) ∧ Ext (fun _ => False) w w2) := by
 obtain ⟨a, cap, rfl, hcap⟩ := Sl.val h
 have hlim := Sl.lim h
 simp only [Lim] at hlim
 refine Fn.enter (fun w => Tryz.call124 _ w) Tryz.func124 rfl ?_
 refine .seq (.region ?_)
 refine .p rfl rfl (.as rfl) (.p rfl rfl (.as rfl) (.nil (.code (.seq (.seq (.keep [(0, _), (1, _)] ⟨rfl, rfl, trivial⟩ (.region ?_)))))))
 refine .p rfl rfl (.mv rfl) (.p rfl rfl (.lt rfl rfl) (.p rfl rfl (.mv rfl) ?_))
 refine .caseD 11 rfl (fun c11 => ?_) (fun c11 => ?_)
 ·refine .skip rfl rfl (.skip rfl rfl (.p rfl rfl (.pickT rfl rfl) (.nil (.code (.keep [(14, _), (0, _), (1, _)] ⟨rfl, rfl, rfl, trivial⟩ (.condT rfl (.seq (.keep [] trivial (.region ?_)))))))))
  refine .p rfl rfl (.as rfl) (.p rfl rfl (.as rfl) (.nil (.code ?_)))
  refine .ret _ rfl ?_
  have e : checkR count l = 2 := by unfold checkR; rw [if_pos (by omega)]
  rw [e]
  exact ⟨_, [], rfl, fun hz => absurd hz (by decide), fun _ => rfl, OwnO.nil, .refl _⟩
 ·refine .p rfl rfl (.mv rfl) (.p rfl rfl (.gt rfl rfl) (.p rfl rfl (.pickF rfl rfl) (.nil (.code (.keep [(14, _), (0, _), (1, _)] ⟨rfl, rfl, rfl, trivial⟩ ?_)))))
  refine .condD rfl (fun c14 => ?_) (fun c14 => ?_)
  ·refine .seq (.keep [] trivial (.region ?_))
   refine .p rfl rfl (.as rfl) (.p rfl rfl (.as rfl) (.nil (.code ?_)))
   refine .ret _ rfl ?_
   have e : checkR count l = 2 := by unfold checkR; rw [if_pos (by omega)]
   rw [e]
   exact ⟨_, [], rfl, fun hz => absurd hz (by decide), fun _ => rfl, OwnO.nil, .refl _⟩
  ·refine .skip (.code (.seq (.seq (.keep [(0, _), (1, _)] ⟨rfl, rfl, trivial⟩ (.region ?_)))))
   refine .p rfl rfl (.mv rfl) (.p rfl rfl (.len rfl rfl) (.p rfl rfl (.gt rfl rfl) (.nil (.code (.keep [(17, _), (0, _), (1, _)] ⟨rfl, rfl, rfl, trivial⟩ ?_)))))
   refine .condD rfl (fun c17 => ?_) (fun c17 => ?_)
   ·refine .seq (.keep [] trivial (.region ?_))
    refine .p rfl rfl (.as rfl) (.p rfl rfl (.as rfl) (.nil (.code ?_)))
    refine .ret _ rfl ?_
    have e : checkR count l = 4 := by unfold checkR; rw [if_neg (by omega), if_pos (by omega)]
    rw [e]
    exact ⟨_, [], rfl, fun hz => absurd hz (by decide), fun _ => rfl, OwnO.nil, .refl _⟩
   ·refine .skip (.code (.seq (.seq (.keep [(0, _), (1, _)] ⟨rfl, rfl, trivial⟩ (.region ?_)))))
    refine .p rfl rfl (.mv rfl) (.p rfl rfl (.len rfl rfl) (.p rfl rfl (.mv rfl) (.nil (.code (.block ?_)))))
    refine .loop (S := Nat × World) (fun s => [(0, i64 count), (1, .slice a l.length cap), (18, .slice a l.length cap), (19, i64 l.length), (20, i64 s.1)]) (fun s => s.2) (fun s => s.1 ≤ l.length ∧ Ext (fun _ => False) w s.2 ∧ ∀ p ∈ l.take s.1, okP count p) (fun s => l.length - s.1) (0, w) ⟨rfl, rfl, rfl, rfl, rfl, trivial⟩ rfl ⟨Nat.zero_le _, .refl _, fun p hp => by cases hp⟩ ?_
    rintro ⟨i, wi⟩ J ⟨hi', hX, hok⟩ again
    simp only at hi' hX hok
    change G _ [(0, i64 count), (1, .slice a l.length cap), (18, .slice a l.length cap), (19, i64 l.length), (20, i64 i)] _ _ wi
    refine .seq (.region ?_)
    refine .p rfl rfl (.lt rfl rfl) (.nil (.code (.seq ?_)))
    refine .condD rfl (fun c21 => ?_) (fun c21 => ?_)
    ·have hi : i < l.length := by omega
     obtain ⟨b1, o1, q1, ue, e, _, hcs, hre⟩ := Sl.at h (List.getElem?_eq_getElem hi)
     cases e
     obtain ⟨rfl, hr1, hr2⟩ := tPiece.val hre
     refine .skip (.code (.seq (.block (.seq (.keep [(0, _), (1, _), (18, _), (19, _), (20, _)] ⟨rfl, rfl, rfl, rfl, rfl, trivial⟩ (.region ?_))))))
     refine .p rfl rfl (.indexAddr (s := 2) rfl rfl rfl rfl (by omega)) (.p rfl rfl (.loadA (n := 2) rfl rfl rfl rfl rfl (hcs.ext hX (fun x => x))) (.v rfl rfl (.alloc rfl rfl) ?_))
     rintro _ w7a ⟨rfl, N7⟩
     refine .s rfl (.storeAll (n := 2) rfl rfl rfl rfl rfl N7.blk rfl) ?_
     intro w7 P7
     have X7 := N7.ext.then P7.ext (by rintro k rfl _; exact Nat.le_refl _)
     have B7 := P7.blk
     refine .nil (.code (.seq (.keep [(7, _), (0, _), (1, _), (18, _), (19, _), (20, _)] ⟨rfl, rfl, rfl, rfl, rfl, rfl, trivial⟩ (.region ?_))))
     refine .p rfl rfl (.fieldAddr rfl rfl rfl rfl) (.p rfl rfl (.load rfl rfl rfl (B7.cell 1)) (.p rfl rfl (.lt rfl rfl) (.p rfl rfl (.mv rfl) ?_)))
     refine .caseD 27 rfl (fun c27 => ?_) (fun c27 => ?_)
     ·refine .skip rfl rfl (.skip rfl rfl (.skip rfl rfl (.p rfl rfl (.pickT rfl rfl) (.p rfl rfl (.mv rfl) (.skip rfl rfl (.skip rfl rfl (.skip rfl rfl (.skip rfl rfl (.p rfl rfl (.pickT rfl rfl) (.p rfl rfl (.mv rfl) (.skip rfl rfl (.skip rfl rfl (.skip rfl rfl ?_)))))))))))))
      refine .skip rfl rfl (.skip rfl rfl (.skip rfl rfl (.skip rfl rfl (.p rfl rfl (.pickT rfl rfl) (.nil (.code (.keep [(46, _), (0, _), (1, _), (18, _), (19, _), (20, _)] ⟨rfl, rfl, rfl, rfl, rfl, rfl, trivial⟩ (.condT rfl (.seq (.keep [] trivial (.region ?_)))))))))))
      refine .p rfl rfl (.as rfl) (.p rfl rfl (.as rfl) (.nil (.code ?_)))
      refine .ret _ rfl ?_
      have hno : ¬ okP count l[i] := by unfold okP; omega
      rw [check_8 (by omega) (by omega) (fun hm => hno (hm.1 _ (List.getElem_mem hi)))]
      exact ⟨_, [], rfl, fun hz => absurd hz (by decide), fun _ => rfl, OwnO.nil, hX.trans X7⟩
     ·refine .p rfl rfl (.fieldAddr rfl rfl rfl rfl) (.p rfl rfl (.load rfl rfl rfl (B7.cell 0)) (.p rfl rfl (.lt rfl rfl) (.p rfl rfl (.pickF rfl rfl) (.p rfl rfl (.mv rfl) ?_))))
      refine .caseD 32 rfl (fun c32 => ?_) (fun c32 => ?_)
      ·refine .skip rfl rfl (.skip rfl rfl (.skip rfl rfl (.skip rfl rfl (.p rfl rfl (.pickT rfl rfl) (.p rfl rfl (.mv rfl) (.skip rfl rfl (.skip rfl rfl (.skip rfl rfl (.skip rfl rfl (.skip rfl rfl (.skip rfl rfl (.skip rfl rfl (.p rfl rfl (.pickT rfl rfl) ?_)))))))))))))
       refine .nil (.code (.keep [(46, _), (0, _), (1, _), (18, _), (19, _), (20, _)] ⟨rfl, rfl, rfl, rfl, rfl, rfl, trivial⟩ (.condT rfl (.seq (.keep [] trivial (.region ?_))))))
       refine .p rfl rfl (.as rfl) (.p rfl rfl (.as rfl) (.nil (.code ?_)))
       refine .ret _ rfl ?_
       have hno : ¬ okP count l[i] := by unfold okP; omega
       rw [check_8 (by omega) (by omega) (fun hm => hno (hm.1 _ (List.getElem_mem hi)))]
       exact ⟨_, [], rfl, fun hz => absurd hz (by decide), fun _ => rfl, OwnO.nil, hX.trans X7⟩
      ·refine .p rfl rfl (.fieldAddr rfl rfl rfl rfl) (.p rfl rfl (.load rfl rfl rfl (B7.cell 0)) (.p rfl rfl (.mv rfl) (.p rfl rfl (.ge rfl rfl) (.p rfl rfl (.pickF rfl rfl) (.p rfl rfl (.mv rfl) ?_)))))
       refine .caseD 38 rfl (fun c38 => ?_) (fun c38 => ?_)
       ·refine .skip rfl rfl (.skip rfl rfl (.skip rfl rfl (.skip rfl rfl (.skip rfl rfl (.skip rfl rfl (.skip rfl rfl (.p rfl rfl (.pickT rfl rfl) (.nil (.code (.keep [(46, _), (0, _), (1, _), (18, _), (19, _), (20, _)] ⟨rfl, rfl, rfl, rfl, rfl, rfl, trivial⟩ (.condT rfl (.seq (.keep [] trivial (.region ?_))))))))))))))
        refine .p rfl rfl (.as rfl) (.p rfl rfl (.as rfl) (.nil (.code ?_)))
        refine .ret _ rfl ?_
        have hno : ¬ okP count l[i] := by unfold okP; omega
        rw [check_8 (by omega) (by omega) (fun hm => hno (hm.1 _ (List.getElem_mem hi)))]
        exact ⟨_, [], rfl, fun hz => absurd hz (by decide), fun _ => rfl, OwnO.nil, hX.trans X7⟩
       ·refine .p rfl rfl (.fieldAddr rfl rfl rfl rfl) (.p rfl rfl (.load rfl rfl rfl (B7.cell 1)) (.p rfl rfl (.mv rfl) (.p rfl rfl (.fieldAddr rfl rfl rfl rfl) (.p rfl rfl (.load rfl rfl rfl (B7.cell 0)) (.p rfl rfl (.sub rfl rfl (by omega)) (.p rfl rfl (.gt rfl rfl) (.p rfl rfl (.pickF rfl rfl) (.nil (.code (.keep [(46, _), (0, _), (1, _), (18, _), (19, _), (20, _)] ⟨rfl, rfl, rfl, rfl, rfl, rfl, trivial⟩ ?_))))))))))
        refine .condD rfl (fun c46 => ?_) (fun c46 => ?_)
        ·refine .seq (.keep [] trivial (.region ?_))
         refine .p rfl rfl (.as rfl) (.p rfl rfl (.as rfl) (.nil (.code ?_)))
         refine .ret _ rfl ?_
         have hno : ¬ okP count l[i] := by unfold okP; omega
         rw [check_8 (by omega) (by omega) (fun hm => hno (hm.1 _ (List.getElem_mem hi)))]
         exact ⟨_, [], rfl, fun hz => absurd hz (by decide), fun _ => rfl, OwnO.nil, hX.trans X7⟩
        ·refine .skip (.blk (.code (.keep [(0, _), (1, _), (18, _), (19, _), (20, _)] ⟨rfl, rfl, rfl, rfl, rfl, trivial⟩ (.region ?_))))
         refine .p rfl rfl (.add rfl rfl (by omega)) (.p rfl rfl (.mv rfl) (.nil ?_))
         refine (again (i + 1, w7) ⟨by show i + 1 ≤ _; omega, hX.trans X7, fun p hp => ?_⟩ (by show _ - (i + 1) < _ - i; omega)).of ⟨rfl, rfl, rfl, rfl, rfl, trivial⟩
         have hp : p ∈ l.take (i + 1) := hp
         rw [List.take_succ_eq_append_getElem hi] at hp
         rcases List.mem_append.1 hp with hp | hp
         ·exact hok p hp
         ·rw [List.mem_singleton] at hp
          subst hp
          unfold okP; omega
    ·obtain rfl : i = l.length := by omega
     rw [List.take_length] at hok
     refine .exit rfl (.code (.seq (.keep [(1, _)] ⟨rfl, trivial⟩ (.region ?_))))
     refine .p rfl rfl (.mv rfl) (.call (first := []) (captured := []) rfl rfl rfl rfl (piecesClone_fn ((Sl tPiece).ext0 h hX) (by omega)) ?_)
     rintro r49 w49 ⟨O49, X49⟩
     refine .p rfl rfl (.as rfl) (.nil (.code (.seq (.keep [(1, _)] ⟨rfl, trivial⟩ (.region ?_)))))
     refine .p rfl rfl (.mv rfl) (.call (first := []) (captured := []) rfl rfl rfl rfl (SortFunc_fn O49) ?_)
     rintro _ w51 ⟨rfl, ps, hp, hso, O51, X51⟩
     have Z51 : Ext (fun _ => False) w w51 := (hX.trans X49).then X51 (fun k hk _ => Nat.le_trans hX.size hk)
     have R51 := OwnO.rep O51 (R := All) (fun _ _ _ => trivial) (fun _ h _ => h.elim)
     obtain ⟨a51, c51, rfl, hc51⟩ := Sl.val R51
     have hsl : ps.length = l.length := hp.length_eq
     have hoks : ∀ p ∈ ps, okP count p := fun p h => hok p (hp.mem_iff.1 h)
     refine .nil (.code (.seq (.seq (.keep [(1, _)] ⟨rfl, trivial⟩ (.region ?_)))))
     refine .p rfl rfl (.as rfl) (.nil (.code (.block ?_)))
     refine .loop (S := Nat) (fun s => [(1, .slice a51 ps.length c51), (8, i64 s)]) (fun s => w51) (fun s => 1 ≤ s ∧ ∀ j (hj : j + 1 < ps.length), j + 1 < s → ps[j].fr + ps[j].ct ≤ ps[j + 1].fr) (fun s => ps.length - s) 1 ⟨rfl, rfl, trivial⟩ rfl ⟨Nat.le_refl _, fun j hj h1 => by omega⟩ ?_
     rintro j J ⟨hj1, hcon⟩ again
     refine .seq (.seq (.region ?_))
     refine .p rfl rfl (.mv rfl) (.p rfl rfl (.mv rfl) (.p rfl rfl (.len rfl rfl) (.p rfl rfl (.lt rfl rfl) (.nil (.code (.keep [(55, _), (1, _), (8, _)] ⟨rfl, rfl, rfl, trivial⟩ ?_))))))
     refine .condD rfl (fun c55 => ?_) (fun c55 => ?_)
     ·have hj : j < ps.length := by omega
      obtain ⟨b2, o2, q2, ue2, e2, _, hcp, hrp⟩ := Sl.at R51 (i := j - 1) (List.getElem?_eq_getElem (by omega))
      cases e2
      obtain ⟨rfl, hp1, hp2⟩ := tPiece.val hrp
      obtain ⟨b3, o3, q3, ue3, e3, _, hcq, hrq⟩ := Sl.at R51 (i := j) (List.getElem?_eq_getElem hj)
      cases e3
      obtain ⟨rfl, hq1, hq2⟩ := tPiece.val hrq
      have ej : ((j : Int) - 1).toNat = j - 1 := by omega
      have hkp := hoks ps[j - 1] (List.getElem_mem (by omega))
      unfold okP at hkp
      refine .skip (.code (.seq (.block (.seq (.keep [(1, _), (8, _)] ⟨rfl, rfl, trivial⟩ (.draws (by kernel_rfl) (by kernel_rfl) ?_))))))
      refine .p rfl rfl (.mv rfl) (.p rfl rfl (.mv rfl) (.p rfl rfl (.sub rfl rfl (by omega)) (.p rfl rfl (.indexAddr (s := 2) rfl rfl rfl rfl (by omega)) (.p rfl rfl (.fieldAddr rfl rfl rfl rfl) (.p rfl rfl (.load rfl rfl rfl (by rw [ej]; exact hcp 0 _ rfl)) ?_)))))
      refine .p rfl rfl (.mv rfl) (.p rfl rfl (.mv rfl) (.p rfl rfl (.sub rfl rfl (by omega)) (.p rfl rfl (.indexAddr (s := 2) rfl rfl rfl rfl (by omega)) (.p rfl rfl (.fieldAddr rfl rfl rfl rfl) (.p rfl rfl (.load rfl rfl rfl (by rw [ej]; exact hcp 1 _ rfl)) ?_)))))
      refine .p rfl rfl (.add rfl rfl (by omega)) (.p rfl rfl (.mv rfl) (.p rfl rfl (.mv rfl) (.p rfl rfl (.indexAddr (s := 2) rfl rfl rfl rfl (by omega)) (.p rfl rfl (.fieldAddr rfl rfl rfl rfl) (.p rfl rfl (.load rfl rfl rfl (hcq 0 _ rfl)) (.p rfl rfl (.gt rfl rfl) (.nil (.code (.keep [(76, _), (1, _), (8, _)] ⟨rfl, rfl, rfl, trivial⟩ ?_)))))))))
      refine .condD rfl (fun c76 => ?_) (fun c76 => ?_)
      ·refine .seq (.keep [] trivial (.region ?_))
       refine .p rfl rfl (.as rfl) (.p rfl rfl (.as rfl) (.nil (.code ?_)))
       refine .ret _ rfl ?_
       have hno : ¬ mayP count l := fun hm => by
        have hr := List.pairwise_iff_getElem.1 (rises_of_may hp hm hso) (j - 1) j (by omega) hj (by omega)
        omega
       rw [check_8 (by omega) (by omega) hno]
       exact ⟨_, [], rfl, fun hz => absurd hz (by decide), fun _ => rfl, OwnO.nil, Z51⟩
      ·refine .skip (.blk (.code (.keep [(1, _), (8, _)] ⟨rfl, rfl, trivial⟩ (.region ?_))))
       refine .p rfl rfl (.mv rfl) (.p rfl rfl (.add rfl rfl (by omega)) (.p rfl rfl (.as rfl) (.nil ?_)))
       refine (again (j + 1) ⟨by omega, fun k hk h1 => ?_⟩ (by omega)).of ⟨rfl, rfl, trivial⟩
       rcases Nat.lt_or_ge (k + 1) j with h2 | h2
       ·exact hcon k hk h2
       ·have ek : k = j - 1 := by omega
        subst ek
        have e2 : ps[j - 1 + 1] = ps[j] := by congr 1; omega
        rw [e2]
        omega
     ·refine .exit rfl (.code (.seq (.keep [(1, _)] ⟨rfl, trivial⟩ (.region ?_))))
      refine .p rfl rfl (.mv rfl) (.p rfl rfl (.as rfl) (.p rfl rfl (.as rfl) (.nil (.code ?_))))
      refine .ret _ rfl ?_
      have hr : Rises ps := rises_of (fun p hp => by have := hoks p hp; unfold okP at this; omega) (fun k hk => hcon k hk (by omega))
      rw [check_0 (by omega) (by omega) (may_of_rises hp hok hr)]
      exact ⟨_, ps, rfl, fun _ => ⟨hp, hr⟩, fun hz => absurd rfl hz, OwnO.mono O51 (fun _ h _ => h) (fun k hk _ => Nat.le_trans hX.size hk), Z51⟩
theorem RoomCheck_fn {w : World} {v : Value} {l : List Piece} {count : Int} (h : (Sl tPiece).rep All w v l) : Fn Tryz.prog 111 [i64 count, v] w (fun r w2 => r = i64 (checkR count l) ∧ Ext (fun _ => False) w w2) := by
 refine Fn.enter (fun w => Tryz.call111 _ w) Tryz.func111 rfl ?_
 refine .seq (.region ?_)
 refine .p rfl rfl (.as rfl) (.nil (.code (.seq (.keep [(0, _), (1, _)] ⟨rfl, rfl, trivial⟩ (.region ?_)))))
 refine .p rfl rfl (.mv rfl) (.p rfl rfl (.mv rfl) (.call (first := []) (captured := []) rfl rfl rfl rfl (rising_fn h) ?_))
 rintro _ w10 ⟨v10, ps, rfl, hs1, hs2, O10, X10⟩
 refine .p rfl rfl (.mv rfl) (.p rfl rfl (.extract rfl rfl) (.p rfl rfl (.extract rfl rfl) (.p rfl rfl (.as rfl) (.p rfl rfl (.as rfl) (.nil (.code (.seq (.keep [(6, _)] ⟨rfl, trivial⟩ (.region ?_)))))))))
 refine .p rfl rfl (.mv rfl) (.p rfl rfl (.as rfl) (.nil (.code ?_)))
 refine .ret _ rfl ?_
 exact ⟨rfl, X10⟩
theorem total_fn {w : World} {v : Value} {l : List Piece} (h : (Sl tPiece).rep All w v l) (hb : ∀ p ∈ l, 0 ≤ p.ct ∧ p.ct ≤ 4096) : Fn Tryz.prog 125 [v] w (fun r w2 => r = i64 (totalF l) ∧ Ext (fun _ => False) w w2) := by
 obtain ⟨a, cap, rfl, hcap⟩ := Sl.val h
 have hlim := Sl.lim h
 simp only [Lim] at hlim
 refine Fn.enter (fun w => Tryz.call125 _ w) Tryz.func125 rfl ?_
 refine .seq (.region ?_)
 refine .p rfl rfl (.as rfl) (.nil (.code (.seq (.seq (.region ?_)))))
 refine .p rfl rfl (.mv rfl) (.p rfl rfl (.len rfl rfl) (.p rfl rfl (.mv rfl) (.nil (.code (.block (.keep [(7, _), (6, _), (5, _), (2, _)] ⟨rfl, rfl, rfl, rfl, trivial⟩ ?_))))))
 refine .loop (S := Nat × World) (fun s => [(2, i64 (totalF (l.take s.1))), (5, .slice a l.length cap), (6, i64 l.length), (7, i64 s.1)]) (fun s => s.2) (fun s => s.1 ≤ l.length ∧ Ext (fun _ => False) w s.2) (fun s => l.length - s.1) (0, w) ⟨rfl, rfl, rfl, rfl, trivial⟩ rfl ⟨Nat.zero_le _, .refl _⟩ ?_
 rintro ⟨i, wi⟩ J ⟨hi', hX⟩ again
 simp only at hi' hX
 change G _ [(2, i64 (totalF (l.take i))), (5, .slice a l.length cap), (6, i64 l.length), (7, i64 i)] _ _ wi
 refine .seq (.region ?_)
 refine .p rfl rfl (.lt rfl rfl) (.nil (.code (.seq ?_)))
 refine .condD rfl (fun c8 => ?_) (fun c8 => ?_)
 ·have hi : i < l.length := by omega
  obtain ⟨b1, o1, q1, ue, e, _, hcs, hre⟩ := Sl.at h (List.getElem?_eq_getElem hi)
  cases e
  obtain ⟨rfl, hr1, hr2⟩ := tPiece.val hre
  have ht := total_bd (M := 4096) (by decide) (l := l.take i) (fun p hp => hb p (List.mem_of_mem_take hp))
  have hl0 := hb l[i] (List.getElem_mem hi)
  have hle : (l.take i).length ≤ l.length := by rw [List.length_take]; omega
  refine .skip (.code (.seq (.block (.seq (.keep [(2, _), (5, _), (6, _), (7, _)] ⟨rfl, rfl, rfl, rfl, trivial⟩ (.region ?_))))))
  refine .p rfl rfl (.indexAddr (s := 2) rfl rfl rfl rfl (by omega)) (.p rfl rfl (.loadA (n := 2) rfl rfl rfl rfl rfl (hcs.ext hX (fun x => x))) (.v rfl rfl (.alloc rfl rfl) ?_))
  rintro _ w7a ⟨rfl, N7⟩
  refine .s rfl (.storeAll (n := 2) rfl rfl rfl rfl rfl N7.blk rfl) ?_
  intro w7 P7
  have X7 := N7.ext.then P7.ext (by rintro k rfl _; exact Nat.le_refl _)
  have B7 := P7.blk
  refine .nil (.code (.keep [(4, _), (2, _), (5, _), (6, _), (7, _)] ⟨rfl, rfl, rfl, rfl, rfl, trivial⟩ (.region ?_)))
  refine .p rfl rfl (.mv rfl) (.p rfl rfl (.fieldAddr rfl rfl rfl rfl) (.p rfl rfl (.load rfl rfl rfl (B7.cell 1)) (.p rfl rfl (.cast (.add rfl rfl (by omega)) (show i64 (totalF (l.take i) + l[i].ct) = i64 (totalF (l.take (i + 1))) by rw [total_take hi])) (.p rfl rfl (.as rfl) (.nil (.blk (.code (.keep [(2, _), (5, _), (6, _), (7, _)] ⟨rfl, rfl, rfl, rfl, trivial⟩ (.region ?_)))))))))
  refine .p rfl rfl (.add rfl rfl (by omega)) (.p rfl rfl (.mv rfl) (.nil ?_))
  exact (again (i + 1, w7) ⟨by show i + 1 ≤ _; omega, hX.trans X7⟩ (by show _ - (i + 1) < _ - i; omega)).of ⟨rfl, rfl, rfl, rfl, trivial⟩
 ·obtain rfl : i = l.length := by omega
  rw [List.take_length]
  refine .exit rfl (.code (.seq (.keep [(2, _)] ⟨rfl, trivial⟩ (.region ?_))))
  refine .p rfl rfl (.mv rfl) (.p rfl rfl (.as rfl) (.nil (.code ?_)))
  refine .ret _ rfl ?_
  exact ⟨rfl, hX⟩
end Go.Proofs.YtpfehnopghffjaaGreatDoor
