import Derived.Test.YtpfehnopghffjaaGreatDoorQ15
import Derived.Test.YtpfehnopghffjaaGreatDoorQ17
import Derived.Test.YtpfehnopghffjaaGreatDoorQ08
import Derived.Test.YtpfehnopghffjaaGreatDoorQ12
import Derived.Test.YtpfehnopghffjaaGreatDoorQ18
import Derived.Test.YtpfehnopghffjaaGreatDoorQ10
set_option linter.unusedVariables false
set_option linter.unusedSimpArgs false
/-
  Layer 4, plain: a directory that is written is read again.
-/
namespace Go.Proofs.YtpfehnopghffjaaGreatDoor
open Go
namespace files
open room
theorem flat_length {α : Type} {f : Nat → List α} {k : Nat} : ∀ n, (∀ i, i < n → (f i).length = k) → ((List.range n).flatMap f).length = n * k
  | 0, _ => by simp
  | n + 1, h => by
    rw [List.range_succ, List.flatMap_append, List.length_append, flat_length n (fun i hi => h i (by omega)), List.flatMap_cons, List.flatMap_nil, List.append_nil, h n (by omega), Nat.succ_mul]
theorem flat_block {α : Type} {f : Nat → List α} {k : Nat} : ∀ n, (∀ i, i < n → (f i).length = k) → ∀ i, i < n → (((List.range n).flatMap f).drop (i * k)).take k = f i
  | 0, _, i, hi => by omega
  | n + 1, h, i, hi => by
    have hl := flat_length (f := f) n (fun i hi => h i (by omega))
    rw [List.range_succ, List.flatMap_append, List.flatMap_cons, List.flatMap_nil, List.append_nil]
    by_cases he : i = n
    · subst he
      rw [List.drop_left' hl, List.take_of_length_le (by rw [h i hi]; exact Nat.le_refl _)]
    · have h1 : i * k + k ≤ n * k := by rw [← Nat.succ_mul]; exact Nat.mul_le_mul_right _ (by omega)
      rw [List.drop_append_of_le_length (by omega), List.take_append_of_le_length (by rw [List.length_drop, hl]; omega)]
      exact flat_block n (fun i hi => h i (by omega)) i (by omega)
theorem take_blocks {α : Type} (b : List α) (k : Nat) : ∀ n, (List.range n).flatMap (fun i => (b.drop (i * k)).take k) = b.take (n * k)
  | 0 => by simp
  | n + 1 => by
    rw [List.range_succ, List.flatMap_append, List.flatMap_cons, List.flatMap_nil, List.append_nil, take_blocks b k n, Nat.succ_mul, List.take_add]
theorem flat_congr {α : Type} {f g : Nat → List α} (n : Nat) (h : ∀ i, i < n → f i = g i) : (List.range n).flatMap f = (List.range n).flatMap g := by
  rw [List.flatMap_def, List.flatMap_def]
  congr 1
  exact List.map_congr_left (fun i hi => h i (List.mem_range.1 hi))
/-- one of the eight sectors -/
def secD (g : Nat) (b : Bs) (i : Nat) : Bs := put8 g ++ [UInt8.ofNat i] ++ (b.drop (i * 119)).take 119
theorem secD_length {g : Nat} {b : Bs} (hb : b.length = 952) {i : Nat} (hi : i < 8) : (secD g b i).length = 128 := by
  unfold secD
  simp only [List.length_append, put8_length, List.length_cons, List.length_nil, List.length_take, List.length_drop]
  omega
theorem slotsD_length {g : Nat} {b : Bs} (hb : b.length = 952) : (slotsD g b).length = 1024 := flat_length (f := secD g b) 8 (fun i hi => secD_length hb hi)
theorem slotsD_sec {g : Nat} {b : Bs} (hb : b.length = 952) {i : Nat} (hi : i < 8) : ((slotsD g b).drop (i * 128)).take 128 = secD g b i := flat_block (f := secD g b) 8 (fun i hi => secD_length hb hi) i hi
theorem inner_slots {g : Nat} {b : Bs} (hb : b.length = 952) : innerD (slotsD g b) = b := by
  unfold innerD
  rw [flat_congr 8 (g := fun i => (b.drop (i * 119)).take 119) (fun i hi => ?_), take_blocks, List.take_of_length_le (by omega)]
  rw [slotsD_sec hb hi]
  unfold secD
  rw [List.drop_left' (by simp [put8_length])]
theorem getTo_putA (n : Nat) (r : Bs) : ∀ i, i ≤ 8 → getTo (put8 n ++ r) i = n % 2 ^ (8 * i)
  | 0, _ => by simp [getTo, Nat.mod_one]
  | i + 1, h => by
    have e : (put8 n ++ r).getD i 0 = byteOf n i := by
      rw [List.getD_eq_getElem?_getD, List.getElem?_append_left (by rw [put8_length]; omega)]
      unfold put8
      rw [List.getElem?_map, List.getElem?_range (by omega)]
      rfl
    have e2 : (byteOf n i).toNat = n / 2 ^ (8 * i) % 256 := by unfold byteOf; simp
    rw [getTo, getTo_putA n r i (by omega), e, e2, show 8 * (i + 1) = 8 * i + 8 by omega, Nat.pow_add, Nat.mod_mul, Nat.mul_comm (n / 2 ^ (8 * i) % 256)]
theorem getTo_put8 {n : Nat} (r : Bs) (h : n < 18446744073709551616) : getTo (put8 n ++ r) 8 = n := by
  rw [getTo_putA n r 8 (by omega)]
  exact Nat.mod_eq_of_lt h
theorem slotsD_gen {g : Nat} {b : Bs} (h : g < 18446744073709551616) : getTo (slotsD g b) 8 = g := by
  have e : slotsD g b = put8 g ++ ([UInt8.ofNat 0] ++ (b.drop (0 * 119)).take 119 ++ (List.range' 1 7).flatMap (secD g b)) := by
    unfold slotsD
    rw [show List.range 8 = 0 :: List.range' 1 7 from rfl, List.flatMap_cons]
    simp only [List.append_assoc]
    rfl
  rw [e, getTo_put8 _ h]
/-! parsing -/
theorem numS_small {n m : Nat} (r : Bs) (h : n < 18446744073709551616) (hm : n ≤ m) : numS m (smallF n ++ r) = some (n, r) := by
  rw [numS_eq, read_small r h, if_neg (fun hx => hx.elim (fun h => h rfl) (fun h => by simp only at h; omega))]
  simp only [List.drop_left]
theorem cutS_text {s : Bs} (r : Bs) (h : s.length < 18446744073709551616) : cutS (textF s ++ r) = some (s, r) := by
  unfold cutS
  rw [cut_text r h, if_neg (fun h => h rfl)]
theorem pieces_back : ∀ (l acc : List Piece) (r : Bs), (∀ p ∈ l, 0 ≤ p.fr ∧ p.fr < 4096 ∧ 1 ≤ p.ct ∧ p.ct ≤ 4096) → piecesS 4096 l.length acc (l.flatMap pieceB ++ r) = some (acc ++ l, r)
  | [], acc, r, _ => by simp [piecesS_0]
  | p :: l, acc, r, h => by
    obtain ⟨h1, h2, h3, h4⟩ := h p (by simp)
    have e : (p :: l).flatMap pieceB ++ r = smallF p.fr.toNat ++ (smallF p.ct.toNat ++ (l.flatMap pieceB ++ r)) := by
      simp only [List.flatMap_cons, pieceB, List.append_assoc]
    rw [List.length_cons, piecesS_s, e, numS_small _ (by omega) (by omega)]
    simp only [Option.bind_some]
    rw [numS_small _ (by omega) (by omega)]
    simp only [Option.bind_some]
    rw [pieces_back l _ r (fun q hq => h q (by simp [hq]))]
    have e2 : (⟨((p.fr.toNat : Nat) : Int), ((p.ct.toNat : Nat) : Int)⟩ : Piece) = p := by
      rw [Int.toNat_of_nonneg h1, Int.toNat_of_nonneg (by omega)]
    rw [e2, List.append_assoc]
    rfl
theorem files_back : ∀ (l acc : List File) (r : Bs), (∀ f ∈ l, f.name.length ≤ 32 ∧ (0 ≤ f.size ∧ f.size ≤ 524288) ∧ f.ps.length ≤ 4096 ∧ ∀ p ∈ f.ps, 0 ≤ p.fr ∧ p.fr < 4096 ∧ 1 ≤ p.ct ∧ p.ct ≤ 4096) → filesS 4096 l.length acc (l.flatMap fileB ++ r) = some (acc ++ l, r)
  | [], acc, r, _ => by simp [filesS_0]
  | f :: l, acc, r, h => by
    obtain ⟨h1, ⟨h2, h3⟩, h4, h5⟩ := h f (by simp)
    have e : (f :: l).flatMap fileB ++ r = textF f.name ++ (smallF f.size.toNat ++ (smallF f.ps.length ++ (f.ps.flatMap pieceB ++ (l.flatMap fileB ++ r)))) := by
      simp only [List.flatMap_cons, fileB, List.append_assoc]
    rw [List.length_cons, filesS_s, e, cutS_text _ (by omega)]
    simp only [Option.bind_some]
    rw [numS_small _ (by omega) (by omega)]
    simp only [Option.bind_some]
    rw [numS_small _ (by omega) (by omega)]
    simp only [Option.bind_some]
    rw [pieces_back _ _ _ h5]
    simp only [Option.bind_some]
    rw [files_back l _ r (fun q hq => h q (by simp [hq]))]
    have e2 : (⟨f.name, ((f.size.toNat : Nat) : Int), [] ++ f.ps⟩ : File) = f := by
      rw [Int.toNat_of_nonneg h2, List.nil_append]
    rw [e2, List.append_assoc]
    rfl
theorem body_back {x : Dir} (hl : x.fs.length ≤ 32) (h : mayD x) (r : Bs) : parseS 4096 (bodyD x.fs ++ r) = some x.fs := by
  unfold parseS
  have e : bodyD x.fs ++ r = smallF x.fs.length ++ (x.fs.flatMap fileB ++ r) := by rw [bodyD, List.append_assoc]
  rw [e, numS_small _ (by omega) hl]
  simp only [Option.bind_some]
  rw [files_back _ _ _ (fun f hf => ?_)]
  · rfl
  · obtain ⟨i, hi, rfl⟩ := List.getElem_of_mem hf
    obtain ⟨h1, h2, h3⟩ := file_ok h hi
    exact ⟨h1, h2, h3, fun p hp => piece_ok h hf hp⟩
theorem writeF_len {x : Dir} {b : Bs} (h : writeF x = (b, 0)) : b.length = 1024 := by
  obtain ⟨_, h1, rfl⟩ := writeF_ok h
  exact slotsD_length (by rw [List.length_append, List.length_replicate]; omega)
/-- what is written is read again -/
theorem read_write {x : Dir} {b : Bs} (h : writeF x = (b, 0)) : readD b = (x, 0) := by
  have hl := writeF_len h
  obtain ⟨hc, hb, he⟩ := writeF_ok h
  obtain ⟨h32, hm⟩ := checkD_ok hc
  obtain ⟨hg1, hg2⟩ := hm.1
  have hlen : (bodyD x.fs ++ List.replicate (952 - (bodyD x.fs).length) (0 : UInt8)).length = 952 := by rw [List.length_append, List.length_replicate]; omega
  have hp : parseS 4096 (innerD b) = some x.fs := by
    rw [he, inner_slots hlen]
    exact body_back h32 hm _
  have hg : (getTo b 8 : Int) = x.gen := by
    rw [he, slotsD_gen (by omega), Int.toNat_of_nonneg (by omega)]
  have e : (⟨min (getTo b 8 : Int) 4611686018427387904, x.fs⟩ : Dir) = x := by
    rw [hg, Int.min_eq_left (by omega)]
  unfold readD
  rw [freadG_ok hl hp (by rw [e]; exact h), e]
/-- what is read is what is written -/
theorem write_read {b : Bs} (h : (readD b).2 = 0) : writeF (readD b).1 = (b, 0) := by
  unfold readD at h ⊢
  by_cases hl : b.length = 1024
  · cases hp : parseS 4096 (innerD b) with
    | none => rw [freadG_none hl hp] at h; cases h
    | some l =>
      by_cases hw : writeF ⟨min (getTo b 8 : Int) 4611686018427387904, l⟩ = (b, 0)
      · rw [freadG_ok hl hp hw]; exact hw
      · rw [freadG_no hl hp hw] at h; cases h
  · rw [freadG_len hl] at h; cases h
theorem read_bad {b : Bs} (h : ¬ (readD b).2 = 0) : readD b = (⟨0, []⟩, 8) := by
  unfold readD at h ⊢
  by_cases hl : b.length = 1024
  · cases hp : parseS 4096 (innerD b) with
    | none => rw [freadG_none hl hp]
    | some l =>
      by_cases hw : writeF ⟨min (getTo b 8 : Int) 4611686018427387904, l⟩ = (b, 0)
      · rw [freadG_ok hl hp hw] at h; exact absurd rfl h
      · rw [freadG_no hl hp hw]
  · rw [freadG_len hl]
end files
end Go.Proofs.YtpfehnopghffjaaGreatDoor
/-
  Layer 4, data: slots; the directory of a disk; what is wrong with changes; turns.
-/
namespace Go.Proofs.YtpfehnopghffjaaGreatDoor
open Go
namespace files
open room
abbrev Change := tree.Change
abbrev Disk := disk.Disk
def nodir : Dir := ⟨0, []⟩
/-- the bytes of a slot -/
def slotB (d : Disk) (n : Nat) : Bs := (List.range 8).flatMap (fun i => disk.readF d ((n + i : Nat) : Int))
noncomputable def slotF (d : Disk) (n : Nat) : Dir := (readD (slotB d n)).1
/-- a slot that holds -/
def slotOK (d : Disk) (n : Nat) : Prop := (readD (slotB d n)).2 = 0 ∧ checkR d.count (allP (slotF d n).fs) = 0
open Classical in
noncomputable def mountF (d : Disk) : Dir × Nat × Int :=
  if ¬ disk.checkF d = 0 then (nodir, 0, disk.checkF d) else if d.count < 96 then (nodir, 0, 40) else
  if slotOK d 0 ∧ ¬ (slotOK d 8 ∧ (slotF d 0).gen < (slotF d 8).gen) then (slotF d 0, 0, 0) else if slotOK d 8 then (slotF d 8, 8, 0) else (nodir, 0, 40)
theorem mountF_e {d : Disk} (h : ¬ disk.checkF d = 0) : mountF d = (nodir, 0, disk.checkF d) := by unfold mountF; rw [if_pos h]
theorem mountF_96 {d : Disk} (h : disk.checkF d = 0) (h2 : d.count < 96) : mountF d = (nodir, 0, 40) := by unfold mountF; rw [if_neg (fun x => x h), if_pos h2]
theorem mountF_0 {d : Disk} (h : disk.checkF d = 0) (h2 : ¬ d.count < 96) (h3 : slotOK d 0) (h4 : ¬ (slotOK d 8 ∧ (slotF d 0).gen < (slotF d 8).gen)) : mountF d = (slotF d 0, 0, 0) := by unfold mountF; rw [if_neg (fun x => x h), if_neg h2, if_pos ⟨h3, h4⟩]
theorem mountF_8 {d : Disk} (h : disk.checkF d = 0) (h2 : ¬ d.count < 96) (h3 : ¬ (slotOK d 0 ∧ ¬ (slotOK d 8 ∧ (slotF d 0).gen < (slotF d 8).gen))) (h4 : slotOK d 8) : mountF d = (slotF d 8, 8, 0) := by unfold mountF; rw [if_neg (fun x => x h), if_neg h2, if_neg h3, if_pos h4]
theorem mountF_40 {d : Disk} (h : disk.checkF d = 0) (h2 : ¬ d.count < 96) (h3 : ¬ slotOK d 0) (h4 : ¬ slotOK d 8) : mountF d = (nodir, 0, 40) := by unfold mountF; rw [if_neg (fun x => x h), if_neg h2, if_neg (fun h => h3 h.1), if_neg h4]
theorem mountF_ok {d : Disk} (h : (mountF d).2.2 = 0) : disk.checkF d = 0 ∧ 96 ≤ d.count ∧ ((mountF d).2.1 = 0 ∨ (mountF d).2.1 = 8) ∧ slotOK d (mountF d).2.1 ∧ (mountF d).1 = slotF d (mountF d).2.1 := by
  by_cases h1 : disk.checkF d = 0
  · by_cases h2 : d.count < 96
    · rw [mountF_96 h1 h2] at h; cases h
    · by_cases h3 : slotOK d 0 ∧ ¬ (slotOK d 8 ∧ (slotF d 0).gen < (slotF d 8).gen)
      · rw [mountF_0 h1 h2 h3.1 h3.2]; exact ⟨h1, by omega, .inl rfl, h3.1, rfl⟩
      · by_cases h4 : slotOK d 8
        · rw [mountF_8 h1 h2 h3 h4]; exact ⟨h1, by omega, .inr rfl, h4, rfl⟩
        · rw [mountF_40 h1 h2 (fun h => h3 ⟨h, fun x => h4 x.1⟩) h4] at h; cases h
  · rw [mountF_e h1] at h; exact absurd h h1
theorem mountF_bad {d : Disk} (h : ¬ (mountF d).2.2 = 0) : (mountF d).1 = nodir ∧ (mountF d).2.1 = 0 := by
  by_cases h1 : disk.checkF d = 0
  · by_cases h2 : d.count < 96
    · rw [mountF_96 h1 h2]; exact ⟨rfl, rfl⟩
    · by_cases h3 : slotOK d 0 ∧ ¬ (slotOK d 8 ∧ (slotF d 0).gen < (slotF d 8).gen)
      · rw [mountF_0 h1 h2 h3.1 h3.2] at h; exact absurd rfl h
      · by_cases h4 : slotOK d 8
        · rw [mountF_8 h1 h2 h3 h4] at h; exact absurd rfl h
        · rw [mountF_40 h1 h2 (fun h => h3 ⟨h, fun x => h4 x.1⟩) h4]; exact ⟨rfl, rfl⟩
  · rw [mountF_e h1]; exact ⟨rfl, rfl⟩
/-- a file's place -/
def findTo (s : Bs) : List File → Int → Int
  | [], _ => -1
  | f :: l, i => if f.name = s then i else findTo s l (i + 1)
def findF (x : Dir) (s : Bs) : Int := findTo s x.fs 0
theorem findTo_no {s : Bs} : ∀ {l : List File} {i : Int}, (∀ f ∈ l, ¬ f.name = s) → findTo s l i = -1
  | [], _, _ => rfl
  | f :: l, i, h => by rw [findTo, if_neg (h f (by simp))]; exact findTo_no (fun g hg => h g (by simp [hg]))
theorem findTo_at {s : Bs} : ∀ {l : List File} {i : Int} {k : Nat} (hk : k < l.length), (∀ j (h : j < k), ¬ (l[j]'(by omega)).name = s) → l[k].name = s → findTo s l i = i + k
  | f :: l, i, 0, _, _, h => by
    have h : f.name = s := h
    rw [findTo, if_pos h]; simp
  | f :: l, i, k + 1, hk, hn, h => by
    have h0 : ¬ f.name = s := hn 0 (by omega)
    rw [findTo, if_neg h0]
    rw [findTo_at (l := l) (k := k) (by simpa using hk) (fun j hj => by have := hn (j + 1) (by omega); simpa using this) (by simpa using h)]
    push_cast
    omega
theorem findF_no {x : Dir} {s : Bs} (h : ∀ f ∈ x.fs, ¬ f.name = s) : findF x s = -1 := findTo_no h
theorem findF_at {x : Dir} {s : Bs} {k : Nat} (hk : k < x.fs.length) (hn : ∀ j (h : j < k), ¬ (x.fs[j]'(by omega)).name = s) (h : x.fs[k].name = s) : findF x s = (k : Int) := by
  unfold findF; rw [findTo_at hk hn h]; omega
/-- what is wrong with a change; with changes -/
def oneW (x : Dir) (seen : List Bs) (c : Change) : Int := if ¬ nameF c.key = true then 5 else if c.key ∈ seen then 8 else if c.gone = true ∧ findF x c.key < 0 then 6 else 0
def chgW (x : Dir) : List Bs → List Change → Int
  | _, [] => 0
  | seen, c :: r => if ¬ oneW x seen c = 0 then oneW x seen c else chgW x (seen ++ [c.key]) r
def wrongF (x : Dir) (l : List Change) : Int := if 64 < l.length then 4 else chgW x [] l
theorem chgW_step {x : Dir} {l : List Change} {seen : List Bs} {i : Nat} (h : i < l.length) : chgW x seen (l.drop i) = if ¬ oneW x seen l[i] = 0 then oneW x seen l[i] else chgW x (seen ++ [l[i].key]) (l.drop (i + 1)) := by
  rw [List.drop_eq_getElem_cons h, chgW]
theorem chgW_err {x : Dir} {l : List Change} {seen : List Bs} {i : Nat} {e : Int} (h : i < l.length) (hchg : chgW x [] l = chgW x seen (l.drop i)) (he : oneW x seen l[i] = e) (h0 : ¬ e = 0) : chgW x [] l = e := by
  rw [hchg, chgW_step h, if_pos (by rw [he]; exact h0), he]
theorem chgW_ok {x : Dir} {l : List Change} {seen : List Bs} {i : Nat} (h : i < l.length) (hchg : chgW x [] l = chgW x seen (l.drop i)) (he : oneW x seen l[i] = 0) : chgW x [] l = chgW x (seen ++ [l[i].key]) (l.drop (i + 1)) := by
  rw [hchg, chgW_step h, if_neg (by rw [he]; exact fun x => x rfl)]
theorem keysC_step {l : List Change} {i : Nat} (h : i < l.length) : (l.take (i + 1)).map (·.key) = (l.take i).map (·.key) ++ [l[i].key] := by
  rw [List.take_succ_eq_append_getElem h, List.map_append]
  rfl
/-- the files that stay, the changes that put -/
def keepN (x : Dir) (l : List Change) : List File := x.fs.filter (fun f => !decide (f.name ∈ l.map (·.key)))
def freshN (l : List Change) : List Change := l.filter (fun c => !c.gone)
/-- a file among others, by its name -/
def insF : List File → File → List File
  | [], f => [f]
  | g :: l, f => if Op.bytesLess f.name g.name = true then f :: g :: l else g :: insF l f
def sortN (l : List File) : List File := l.foldl insF []
/-- a sector of a file's bytes -/
def secV (v : Bs) (i : Nat) : Bs := (v.drop (i * 128)).take 128 ++ List.replicate (128 - ((v.drop (i * 128)).take 128).length) 0
def sectE (p : List Piece) : List Int := if checkR 4096 p = 0 then sectF p else []
def putsV (p : List Piece) (v : Bs) : List disk.Put := (List.range (sectE p).length).map (fun i => ⟨(sectE p).getD i 0, secV v i⟩)
def putA (l : List disk.Put) : List disk.Act := l.map (fun p => ⟨false, p⟩)
def actsV (p : List Piece) (v : Bs) : List disk.Act := putA (putsV p v)
/-- files put, one behind the other -/
def putsF (count : Int) : List Change → List File → List disk.Act → List Piece → List File × List disk.Act × Int
  | [], fs, zs, used => (fs, zs, 0)
  | c :: l, fs, zs, used =>
    if 4096 < needF c.value.length then ([], [], 30) else if ¬ takeE 80 count used (needF c.value.length) = 0 then ([], [], takeE 80 count used (needF c.value.length)) else
    putsF count l (fs ++ [⟨c.key, c.value.length, takeL 80 count used (needF c.value.length)⟩]) (zs ++ actsV (takeL 80 count used (needF c.value.length)) c.value) (used ++ takeL 80 count used (needF c.value.length))
/-- the new number -/
def genTo (d : Disk) (other : Nat) (g : Int) : Nat → Int
  | 0 => g
  | i + 1 => if getTo ((disk.readF d ((other + i : Nat) : Int)).take 8) 8 < 4611686018427387904 then max (genTo d other g i) (getTo ((disk.readF d ((other + i : Nat) : Int)).take 8) 8 : Nat) else genTo d other g i
def genN (d : Disk) (other : Nat) (g : Int) : Int := genTo d other g 8 + 1
def flushA : disk.Act := ⟨true, 0, []⟩
def dirP (b : Bs) (other : Nat) : List disk.Put := (List.range 8).map (fun i => ⟨((other + i : Nat) : Int), (b.drop (i * 128)).take 128⟩)
def dirA (b : Bs) (other : Nat) : List disk.Act := putA (dirP b other)
def actsN (zs : List disk.Act) (b : Bs) (other : Nat) : List disk.Act := zs ++ (if zs = [] then [] else [flushA]) ++ dirA b other ++ [flushA]
/-- the new directory -/
def turnD (d : Disk) (x : Dir) (at_ : Nat) (fs : List File) : Dir := ⟨genN d (8 - at_) x.gen, sortN fs⟩
noncomputable def turnF (d : Disk) (l : List Change) : List disk.Act × Int :=
  if ¬ (mountF d).2.2 = 0 then ([], (mountF d).2.2) else if ¬ wrongF (mountF d).1 l = 0 then ([], wrongF (mountF d).1 l) else
  if 32 < (keepN (mountF d).1 l).length + (freshN l).length then ([], 42) else
  if ¬ (putsF d.count (freshN l) (keepN (mountF d).1 l) [] (allP (mountF d).1.fs)).2.2 = 0 then ([], (putsF d.count (freshN l) (keepN (mountF d).1 l) [] (allP (mountF d).1.fs)).2.2) else
  if ¬ (writeF (turnD d (mountF d).1 (mountF d).2.1 (putsF d.count (freshN l) (keepN (mountF d).1 l) [] (allP (mountF d).1.fs)).1)).2 = 0 then ([], 42) else
  (actsN (putsF d.count (freshN l) (keepN (mountF d).1 l) [] (allP (mountF d).1.fs)).2.1 (writeF (turnD d (mountF d).1 (mountF d).2.1 (putsF d.count (freshN l) (keepN (mountF d).1 l) [] (allP (mountF d).1.fs)).1)).1 (8 - (mountF d).2.1), 0)
/-- a new disk -/
noncomputable def formatF (n : Int) : Disk × Int := if n < 96 ∨ 4096 < n then (disk.nodisk, 20) else (⟨n, (writeF ⟨1, []⟩).1 ++ List.replicate (n.toNat * 128 - 1024) 0, []⟩, 0)
/-- a file's bytes -/
def bytesF (d : Disk) (f : File) : Bs := ((sectE f.ps).flatMap (fun n => disk.readF d n)).take f.size.toNat
noncomputable def getF (d : Disk) (s : Bs) : Bs × Int :=
  if ¬ (mountF d).2.2 = 0 then ([], (mountF d).2.2) else if ¬ nameF s = true then ([], 5) else if findF (mountF d).1 s < 0 then ([], 6) else
  (bytesF d ((mountF d).1.fs.getD (findF (mountF d).1 s).toNat ⟨[], 0, []⟩), 0)
noncomputable def namesF (d : Disk) : List Bs × Int := ((mountF d).1.fs.map (·.name), (mountF d).2.2)
noncomputable def roomF (d : Disk) : Int × Int := if ¬ (mountF d).2.2 = 0 then (0, (mountF d).2.2) else (totalF (freeL 80 d.count (allP (mountF d).1.fs)), 0)
end files
end Go.Proofs.YtpfehnopghffjaaGreatDoor
/-
  Layer 4, plain: names in order; files among others.
-/
namespace Go.Proofs.YtpfehnopghffjaaGreatDoor
open Go
namespace files
open room
theorem bl_cons (a b : UInt8) (x y : Bs) : Op.bytesLess (a :: x) (b :: y) = true ↔ a < b ∨ (a = b ∧ Op.bytesLess x y = true) := by simp [Op.bytesLess]
theorem bl_irr : ∀ a : Bs, ¬ Op.bytesLess a a = true
  | [] => by simp [Op.bytesLess]
  | a :: x => by
    rw [bl_cons]
    rintro (h | ⟨_, h⟩)
    · exact UInt8.lt_irrefl a h
    · exact bl_irr x h
theorem bl_trans : ∀ {a b c : Bs}, Op.bytesLess a b = true → Op.bytesLess b c = true → Op.bytesLess a c = true
  | [], [], _, h, _ => by simp [Op.bytesLess] at h
  | _ :: _, [], _, h, _ => by simp [Op.bytesLess] at h
  | [], _ :: _, [], _, h => by simp [Op.bytesLess] at h
  | [], _ :: _, _ :: _, _, _ => by simp [Op.bytesLess]
  | _ :: _, _ :: _, [], _, h => by simp [Op.bytesLess] at h
  | a :: x, b :: y, c :: z, h, k => by
    rw [bl_cons] at h k ⊢
    rcases h with h | ⟨rfl, h⟩
    · rcases k with k | ⟨rfl, k⟩
      · exact .inl (UInt8.lt_trans h k)
      · exact .inl h
    · rcases k with k | ⟨rfl, k⟩
      · exact .inl k
      · exact .inr ⟨rfl, bl_trans h k⟩
theorem bl_asymm {a b : Bs} (h : Op.bytesLess a b = true) : ¬ Op.bytesLess b a = true := fun k => bl_irr a (bl_trans h k)
theorem bl_tri : ∀ a b : Bs, Op.bytesLess a b = true ∨ a = b ∨ Op.bytesLess b a = true
  | [], [] => .inr (.inl rfl)
  | [], _ :: _ => .inl (by simp [Op.bytesLess])
  | _ :: _, [] => .inr (.inr (by simp [Op.bytesLess]))
  | a :: x, b :: y => by
    rw [bl_cons, bl_cons]
    by_cases h1 : a < b
    · exact .inl (.inl h1)
    · by_cases h2 : b < a
      · exact .inr (.inr (.inl h2))
      · have e : a = b := UInt8.le_antisymm (UInt8.not_lt.1 h2) (UInt8.not_lt.1 h1)
        subst e
        rcases bl_tri x y with h | h | h
        · exact .inl (.inr ⟨rfl, h⟩)
        · exact .inr (.inl (by rw [h]))
        · exact .inr (.inr (.inr ⟨rfl, h⟩))
/-- lists that rise and have the same members are the same -/
theorem sorted_ext {α : Type} {lt : α → α → Prop} (irr : ∀ a, ¬ lt a a) (tr : ∀ {a b c}, lt a b → lt b c → lt a c) : ∀ {l m : List α}, l.Pairwise lt → m.Pairwise lt → (∀ a, a ∈ l ↔ a ∈ m) → l = m
  | [], [], _, _, _ => rfl
  | [], b :: m, _, _, h => absurd ((h b).2 (by simp)) (by simp)
  | a :: l, [], _, _, h => absurd ((h a).1 (by simp)) (by simp)
  | a :: l, b :: m, hl, hm, h => by
    obtain ⟨hl1, hl2⟩ := List.pairwise_cons.1 hl
    obtain ⟨hm1, hm2⟩ := List.pairwise_cons.1 hm
    have e : a = b := by
      rcases List.mem_cons.1 ((h a).1 (by simp)) with e | h1
      · exact e
      · rcases List.mem_cons.1 ((h b).2 (by simp)) with e | h2
        · exact e.symm
        · exact absurd (tr (hm1 a h1) (hl1 b h2)) (irr b)
    subst e
    congr 1
    refine sorted_ext irr tr hl2 hm2 (fun x => ⟨fun hx => ?_, fun hx => ?_⟩)
    · rcases List.mem_cons.1 ((h x).1 (by simp [hx])) with e | h1
      · subst e; exact absurd (hl1 _ hx) (irr _)
      · exact h1
    · rcases List.mem_cons.1 ((h x).2 (by simp [hx])) with e | h1
      · subst e; exact absurd (hm1 _ hx) (irr _)
      · exact h1
def ltN (f g : File) : Prop := Op.bytesLess f.name g.name = true
def UpN (l : List File) : Prop := l.Pairwise ltN
theorem ltN_irr (f : File) : ¬ ltN f f := bl_irr _
theorem ltN_ne {a b : File} (h : ltN a b) : a.name ≠ b.name := fun e => by
  unfold ltN at h
  rw [e] at h
  exact bl_irr _ h
theorem ltN_tr {a b c : File} (h : ltN a b) (k : ltN b c) : ltN a c := bl_trans h k
theorem insF_mem {f g : File} : ∀ {l : List File}, g ∈ insF l f ↔ g = f ∨ g ∈ l
  | [] => by simp [insF]
  | x :: l => by
    rw [insF]
    split
    · simp
    · rw [List.mem_cons, insF_mem (l := l), List.mem_cons]
      constructor
      · rintro (h | h | h)
        · exact .inr (.inl h)
        · exact .inl h
        · exact .inr (.inr h)
      · rintro (h | h | h)
        · exact .inr (.inl h)
        · exact .inl h
        · exact .inr (.inr h)
theorem insF_up {f : File} : ∀ {l : List File}, UpN l → (∀ g ∈ l, g.name ≠ f.name) → UpN (insF l f)
  | [], _, _ => List.pairwise_singleton _ _
  | x :: l, h, hn => by
    obtain ⟨h1, h2⟩ := List.pairwise_cons.1 h
    rw [insF]
    split
    · rename_i hlt
      refine List.pairwise_cons.2 ⟨fun g hg => ?_, h⟩
      rcases List.mem_cons.1 hg with rfl | hg
      · exact hlt
      · exact bl_trans hlt (h1 g hg)
    · rename_i hlt
      refine List.pairwise_cons.2 ⟨fun g hg => ?_, insF_up h2 (fun g hg => hn g (by simp [hg]))⟩
      rcases insF_mem.1 hg with rfl | hg
      · rcases bl_tri x.name g.name with h3 | h3 | h3
        · exact h3
        · exact absurd h3 (hn x (by simp))
        · exact absurd h3 hlt
      · exact h1 g hg
theorem foldl_ins : ∀ {l k : List File}, UpN k → (k ++ l).Pairwise (fun f g => f.name ≠ g.name) → UpN (l.foldl insF k) ∧ ∀ g, g ∈ l.foldl insF k ↔ g ∈ k ∨ g ∈ l
  | [], k, hk, _ => ⟨hk, fun g => by simp⟩
  | f :: l, k, hk, hd => by
    obtain ⟨h1, h2, h3⟩ := List.pairwise_append.1 hd
    obtain ⟨h4, h5⟩ := List.pairwise_cons.1 h2
    have hn : ∀ g ∈ k, g.name ≠ f.name := fun g hg => h3 g hg f (by simp)
    have hd2 : (insF k f ++ l).Pairwise (fun f g => f.name ≠ g.name) := by
      refine List.pairwise_append.2 ⟨(insF_up hk hn).imp (fun h => ltN_ne h), h5, fun a ha b hb => ?_⟩
      rcases insF_mem.1 ha with rfl | ha
      · exact h4 b hb
      · exact h3 a ha b (by simp [hb])
    obtain ⟨i1, i2⟩ := foldl_ins (insF_up hk hn) hd2
    refine ⟨i1, fun g => ?_⟩
    rw [List.foldl_cons, i2 g, insF_mem, List.mem_cons]
    constructor
    · rintro ((h | h) | h)
      · exact .inr (.inl h)
      · exact .inl h
      · exact .inr (.inr h)
    · rintro (h | h | h)
      · exact .inl (.inr h)
      · exact .inl (.inl h)
      · exact .inr h
theorem sortN_ok {l : List File} (hd : l.Pairwise (fun f g => f.name ≠ g.name)) : UpN (sortN l) ∧ ∀ g, g ∈ sortN l ↔ g ∈ l := by
  obtain ⟨h1, h2⟩ := foldl_ins (l := l) (k := []) .nil hd
  exact ⟨h1, fun g => by rw [sortN, h2 g]; simp⟩
theorem sortN_eq {l s : List File} (hd : l.Pairwise (fun f g => f.name ≠ g.name)) (hs : UpN s) (hm : ∀ g, g ∈ s ↔ g ∈ l) : s = sortN l := by
  obtain ⟨h1, h2⟩ := sortN_ok hd
  exact sorted_ext ltN_irr (fun h k => ltN_tr h k) hs h1 (fun g => by rw [hm, h2])
theorem sortN_fold {k l : List File} (hk : UpN k) (hd : (k ++ l).Pairwise (fun f g => f.name ≠ g.name)) : l.foldl insF k = sortN (k ++ l) := by
  obtain ⟨h1, h2⟩ := foldl_ins hk hd
  exact sortN_eq hd h1 (fun g => by rw [h2, List.mem_append])
theorem sortN_perm {l : List File} : (sortN l).Perm l := by
  have hi : ∀ (l : List File) (f : File), (insF l f).Perm (f :: l) := by
    intro l f
    induction l with
    | nil => exact .refl _
    | cons x l ih =>
      rw [insF]
      split
      · exact .refl _
      · exact (List.Perm.cons x ih).trans (List.Perm.swap f x l)
  have hf : ∀ (l k : List File), (l.foldl insF k).Perm (k ++ l) := by
    intro l
    induction l with
    | nil => intro k; rw [List.append_nil]; exact .refl _
    | cons f l ih =>
      intro k
      refine (ih (insF k f)).trans ?_
      refine ((hi k f).append_right l).trans ?_
      exact List.perm_middle.symm
  exact hf l []
/-- the files of a directory that may be rise by name -/
theorem up_of {l : List File} (h : ∀ i (h : i < l.length), okAt l i h) : UpN l := by
  have key : ∀ n, n ≤ l.length → UpN (l.take n) := by
    intro n
    induction n with
    | zero => intro _; exact .nil
    | succ n ih =>
      intro hn
      have hi : n < l.length := by omega
      have ihn := ih (by omega)
      rw [List.take_succ_eq_append_getElem hi]
      refine List.pairwise_append.2 ⟨ihn, List.pairwise_singleton _ _, fun a ha b hb => ?_⟩
      rw [List.mem_singleton] at hb
      subst hb
      obtain ⟨j, hj, rfl⟩ := List.getElem_of_mem ha
      rw [List.length_take] at hj
      rw [List.getElem_take]
      have h0 : 0 < n := by omega
      have hlast := (h n hi).2.1 h0
      by_cases hjn : j = n - 1
      · subst hjn; exact hlast
      · have h2 := List.pairwise_iff_getElem.1 ihn j (n - 1) (by rw [List.length_take]; omega) (by rw [List.length_take]; omega) (by omega)
        rw [List.getElem_take, List.getElem_take] at h2
        exact bl_trans h2 hlast
  have := key l.length (Nat.le_refl _)
  rwa [List.take_length] at this
theorem up_ne {l : List File} (h : UpN l) : l.Pairwise (fun f g => f.name ≠ g.name) := h.imp (fun h => ltN_ne h)
theorem up_at {l : List File} (h : UpN l) {i : Nat} (hi : i < l.length) (h0 : 0 < i) : Op.bytesLess (l[i - 1]'(by omega)).name l[i].name = true := List.pairwise_iff_getElem.1 h (i - 1) i (by omega) hi (by omega)
/-- a slot that holds, a directory that may be -/
theorem slot_may {d : Disk} {n : Nat} (h : slotOK d n) : writeF (slotF d n) = (slotB d n, 0) ∧ (slotF d n).fs.length ≤ 32 ∧ mayD (slotF d n) ∧ checkR d.count (allP (slotF d n).fs) = 0 := by
  have hw := write_read h.1
  obtain ⟨h1, h2⟩ := checkD_ok (writeF_ok hw).1
  exact ⟨hw, h1, h2, h.2⟩
theorem mount_may {d : Disk} (h : (mountF d).2.2 = 0) : disk.checkF d = 0 ∧ 96 ≤ d.count ∧ (mountF d).1.fs.length ≤ 32 ∧ mayD (mountF d).1 ∧ checkR d.count (allP (mountF d).1.fs) = 0 ∧ UpN (mountF d).1.fs := by
  obtain ⟨h1, h2, _, h3, h4⟩ := mountF_ok h
  obtain ⟨_, h5, h6, h7⟩ := slot_may h3
  rw [h4]
  exact ⟨h1, h2, h5, h6, h7, up_of h6.2.2.2⟩
/-! what is wrong with changes -/
theorem chgW_0 {x : Dir} : ∀ {l : List Change} {seen : List Bs}, chgW x seen l = 0 → (∀ c ∈ l, nameF c.key = true ∧ c.key ∉ seen ∧ (c.gone = true → ¬ findF x c.key < 0)) ∧ l.Pairwise (fun a b => a.key ≠ b.key)
  | [], _, _ => ⟨fun _ h => (by cases h), .nil⟩
  | c :: l, seen, h => by
    rw [chgW] at h
    split at h
    · rename_i h1; exact absurd h h1
    · rename_i h1
      have h1 := Decidable.not_not.1 h1
      obtain ⟨i1, i2⟩ := chgW_0 h
      have hc : nameF c.key = true ∧ c.key ∉ seen ∧ (c.gone = true → ¬ findF x c.key < 0) := by
        unfold oneW at h1
        split at h1
        · cases h1
        · rename_i h2
          split at h1
          · cases h1
          · rename_i h3
            split at h1
            · cases h1
            · rename_i h4
              exact ⟨Decidable.not_not.1 h2, h3, fun hg hf => h4 ⟨hg, hf⟩⟩
      refine ⟨fun d hd => ?_, List.pairwise_cons.2 ⟨fun d hd e => (i1 d hd).2.1 (by rw [← e]; simp), i2⟩⟩
      rcases List.mem_cons.1 hd with rfl | hd
      · exact hc
      · exact ⟨(i1 d hd).1, fun hs => (i1 d hd).2.1 (by simp [hs]), (i1 d hd).2.2⟩
theorem wrongF_0 {x : Dir} {l : List Change} (h : wrongF x l = 0) : l.length ≤ 64 ∧ (∀ c ∈ l, nameF c.key = true ∧ (c.gone = true → ¬ findF x c.key < 0)) ∧ l.Pairwise (fun a b => a.key ≠ b.key) := by
  unfold wrongF at h
  split at h
  · cases h
  · obtain ⟨h1, h2⟩ := chgW_0 h
    exact ⟨by omega, fun c hc => ⟨(h1 c hc).1, (h1 c hc).2.2⟩, h2⟩
end files
end Go.Proofs.YtpfehnopghffjaaGreatDoor
/-
  Layer 4, plain: the files of a disk behind changes, by the words alone.
-/
namespace Go.Proofs.YtpfehnopghffjaaGreatDoor
open Go
namespace files
open room
abbrev NV := Bs × Bs
def ltV (a b : NV) : Prop := Op.bytesLess a.1 b.1 = true
noncomputable def viewF (d : Disk) : List NV := (mountF d).1.fs.map (fun f => (f.name, bytesF d f))
def stepV (out : List NV) (c : Change) : List NV := out.filter (fun p => Op.bytesLess p.1 c.key) ++ (if c.gone = true then [] else [(c.key, c.value)]) ++ out.filter (fun p => Op.bytesLess c.key p.1)
noncomputable def map2F (d : Disk) (l : List Change) : List NV := l.foldl stepV (viewF d)
theorem stepV_mem {out : List NV} {c : Change} {p : NV} : p ∈ stepV out c ↔ (p ∈ out ∧ p.1 ≠ c.key) ∨ (c.gone = false ∧ p = (c.key, c.value)) := by
  unfold stepV
  simp only [List.mem_append, List.mem_filter]
  constructor
  · rintro ((⟨h1, h2⟩ | h) | ⟨h1, h2⟩)
    · exact .inl ⟨h1, fun e => bl_irr c.key (by rw [e] at h2; exact h2)⟩
    · cases hg : c.gone with
      | true => rw [hg, if_pos rfl] at h; cases h
      | false => rw [hg, if_neg (by exact Bool.false_ne_true)] at h; exact .inr ⟨rfl, by simpa using h⟩
    · exact .inl ⟨h1, fun e => bl_irr c.key (by rw [e] at h2; exact h2)⟩
  · rintro (⟨h1, h2⟩ | ⟨h1, rfl⟩)
    · rcases bl_tri p.1 c.key with h | h | h
      · exact .inl (.inl ⟨h1, h⟩)
      · exact absurd h h2
      · exact .inr ⟨h1, h⟩
    · exact .inl (.inr (by rw [h1, if_neg (by exact Bool.false_ne_true)]; simp))
theorem stepV_up {out : List NV} {c : Change} (h : out.Pairwise ltV) : (stepV out c).Pairwise ltV := by
  unfold stepV
  refine List.pairwise_append.2 ⟨List.pairwise_append.2 ⟨h.sublist (List.filter_sublist), ?_, ?_⟩, h.sublist (List.filter_sublist), ?_⟩
  · split
    · exact .nil
    · exact List.pairwise_singleton _ _
  · intro a ha b hb
    split at hb
    · cases hb
    · rw [List.mem_singleton] at hb
      subst hb
      exact (List.mem_filter.1 ha).2
  · intro a ha b hb
    have hb := (List.mem_filter.1 hb).2
    rcases List.mem_append.1 ha with ha | ha
    · exact bl_trans (List.mem_filter.1 ha).2 hb
    · split at ha
      · cases ha
      · rw [List.mem_singleton] at ha
        subst ha
        exact hb
theorem foldV : ∀ {l : List Change} {out : List NV}, out.Pairwise ltV → l.Pairwise (fun a b => a.key ≠ b.key) → (l.foldl stepV out).Pairwise ltV ∧ ∀ p, p ∈ l.foldl stepV out ↔ (p ∈ out ∧ ∀ c ∈ l, p.1 ≠ c.key) ∨ ∃ c ∈ l, c.gone = false ∧ p = (c.key, c.value)
  | [], out, h, _ => ⟨h, fun p => by simp⟩
  | c :: l, out, h, hd => by
    obtain ⟨h1, h2⟩ := List.pairwise_cons.1 hd
    obtain ⟨i1, i2⟩ := foldV (l := l) (stepV_up (c := c) h) h2
    refine ⟨i1, fun p => ?_⟩
    rw [List.foldl_cons, i2 p, stepV_mem]
    constructor
    · rintro (⟨⟨h3, h4⟩ | ⟨h3, h4⟩, h5⟩ | ⟨b, hb, h3, h4⟩)
      · exact .inl ⟨h3, fun b hb => by rcases List.mem_cons.1 hb with rfl | hb; exact h4; exact h5 b hb⟩
      · exact .inr ⟨c, by simp, h3, h4⟩
      · exact .inr ⟨b, by simp [hb], h3, h4⟩
    · rintro (⟨h3, h4⟩ | ⟨b, hb, h3, h4⟩)
      · exact .inl ⟨.inl ⟨h3, h4 c (by simp)⟩, fun b hb => h4 b (by simp [hb])⟩
      · rcases List.mem_cons.1 hb with rfl | hb
        · exact .inl ⟨.inr ⟨h3, h4⟩, fun a ha => by rw [h4]; exact h1 a ha⟩
        · exact .inr ⟨b, hb, h3, h4⟩
theorem view_up {d : Disk} (h : (mountF d).2.2 = 0) : (viewF d).Pairwise ltV := by
  obtain ⟨_, _, _, _, _, h2⟩ := mount_may h
  unfold viewF
  rw [List.pairwise_map]
  exact h2.imp (fun h => h)
/-- the view of a disk whose files are those of another one but for changes -/
theorem view_turned {d y : Disk} {l : List Change} {news : List File} (hd : (mountF d).2.2 = 0) (hw : wrongF (mountF d).1 l = 0) (hy : (mountF y).1.fs = sortN (keepN (mountF d).1 l ++ news))
    (hn : news.map (fun f => (f.name, bytesF y f)) = (freshN l).map (fun c => (c.key, c.value))) (hk : ∀ f ∈ keepN (mountF d).1 l, bytesF y f = bytesF d f) (hm : (mountF y).2.2 = 0) : viewF y = map2F d l := by
  obtain ⟨_, hw2, hw3⟩ := wrongF_0 hw
  obtain ⟨hu, hmm⟩ := foldV (view_up hd) hw3
  have hdist : (keepN (mountF d).1 l ++ news).Pairwise (fun f g => f.name ≠ g.name) := by
    obtain ⟨_, _, _, _, _, h2⟩ := mount_may hd
    have hnk : news.map (·.name) = (freshN l).map (·.key) := by
      have := congrArg (List.map Prod.fst) hn
      simpa [List.map_map, Function.comp_def] using this
    refine List.pairwise_append.2 ⟨(up_ne h2).sublist List.filter_sublist, ?_, fun a ha b hb => ?_⟩
    · rw [← List.pairwise_map (f := File.name) (R := fun a b => a ≠ b), hnk, List.pairwise_map]
      exact hw3.sublist List.filter_sublist
    · have h3 := (List.mem_filter.1 ha).2
      have hb' : b.name ∈ (freshN l).map (·.key) := by rw [← hnk]; exact List.mem_map.2 ⟨b, hb, rfl⟩
      obtain ⟨c, hc, hcb⟩ := List.mem_map.1 hb'
      intro e
      have : a.name ∈ l.map (·.key) := List.mem_map.2 ⟨c, (List.mem_filter.1 hc).1, by rw [hcb, e]⟩
      rw [decide_eq_true this] at h3
      cases h3
  refine sorted_ext (lt := ltV) (fun a => bl_irr _) (fun h k => bl_trans h k) (view_up hm) hu (fun p => ?_)
  unfold map2F
  rw [hmm p]
  unfold viewF
  rw [hy]
  constructor
  · intro h
    obtain ⟨f, hf, rfl⟩ := List.mem_map.1 h
    rcases List.mem_append.1 (((sortN_ok hdist).2 f).1 hf) with hf | hf
    · refine .inl ⟨List.mem_map.2 ⟨f, (List.mem_filter.1 hf).1, by rw [hk f hf]⟩, fun c hc e => ?_⟩
      have h3 := (List.mem_filter.1 hf).2
      have e : f.name = c.key := e
      have : f.name ∈ l.map (·.key) := List.mem_map.2 ⟨c, hc, e.symm⟩
      rw [decide_eq_true this] at h3
      cases h3
    · have : (f.name, bytesF y f) ∈ news.map (fun f => (f.name, bytesF y f)) := List.mem_map.2 ⟨f, hf, rfl⟩
      rw [hn] at this
      obtain ⟨c, hc, e⟩ := List.mem_map.1 this
      obtain ⟨hc1, hc2⟩ := List.mem_filter.1 hc
      exact .inr ⟨c, hc1, by simpa using hc2, e.symm⟩
  · rintro (⟨h1, h2⟩ | ⟨c, hc, h1, rfl⟩)
    · obtain ⟨f, hf, rfl⟩ := List.mem_map.1 h1
      have hkf : f ∈ keepN (mountF d).1 l := by
        refine List.mem_filter.2 ⟨hf, ?_⟩
        have : f.name ∉ l.map (·.key) := fun hx => by
          obtain ⟨c, hc, e⟩ := List.mem_map.1 hx
          exact h2 c hc e.symm
        rw [decide_eq_false this]; rfl
      exact List.mem_map.2 ⟨f, ((sortN_ok hdist).2 f).2 (List.mem_append_left _ hkf), by rw [hk f hkf]⟩
    · have : (c.key, c.value) ∈ (freshN l).map (fun c => (c.key, c.value)) := List.mem_map.2 ⟨c, List.mem_filter.2 ⟨hc, by rw [h1]; rfl⟩, rfl⟩
      rw [← hn] at this
      obtain ⟨f, hf, e⟩ := List.mem_map.1 this
      exact List.mem_map.2 ⟨f, ((sortN_ok hdist).2 f).2 (List.mem_append_right _ hf), e⟩
/-- a file is found by its name -/
theorem find_up {x : Dir} (h : UpN x.fs) {i : Nat} (hi : i < x.fs.length) : findF x x.fs[i].name = (i : Int) :=
  findF_at hi (fun j hj e => by
    have h2 := List.pairwise_iff_getElem.1 h j i (by omega) hi hj
    have h2 : Op.bytesLess (x.fs[j]'(by omega)).name x.fs[i].name = true := h2
    rw [e] at h2
    exact bl_irr _ h2) rfl
theorem get_at {d : Disk} (h : (mountF d).2.2 = 0) {i : Nat} (hi : i < (mountF d).1.fs.length) : getF d (mountF d).1.fs[i].name = (bytesF d (mountF d).1.fs[i], 0) := by
  obtain ⟨_, _, _, hm, _, hu⟩ := mount_may h
  have hf := find_up hu hi
  have hnm : nameF (mountF d).1.fs[i].name = true := (hm.2.2.2 i hi).1
  unfold getF
  rw [if_neg (fun x => x h), if_neg (fun x => x hnm), hf, if_neg (by omega), Int.toNat_natCast, List.getD_eq_getElem?_getD, List.getElem?_eq_getElem hi]
  rfl
theorem find_neg {x : Dir} {s : Bs} : findF x s < 0 ↔ ∀ f ∈ x.fs, ¬ f.name = s := by
  constructor
  · intro h f hf e
    obtain ⟨i, hi, rfl⟩ := List.getElem_of_mem hf
    have key : ∀ (l : List File) (k : Int), 0 ≤ k → (∃ f ∈ l, f.name = s) → 0 ≤ findTo s l k := by
      intro l
      induction l with
      | nil => rintro k _ ⟨f, hf, _⟩; cases hf
      | cons g l ih =>
        rintro k hk ⟨f, hf, e⟩
        rw [findTo]
        split
        · exact hk
        · rename_i hne
          rcases List.mem_cons.1 hf with rfl | hf
          · exact absurd e hne
          · exact ih (k + 1) (by omega) ⟨f, hf, e⟩
    have := key x.fs 0 (by omega) ⟨_, List.getElem_mem hi, e⟩
    unfold findF at h
    omega
  · intro h
    rw [findF_no h]
    decide
end files
end Go.Proofs.YtpfehnopghffjaaGreatDoor
/-
  Layer 4, plain: acts that are broken off by a loss of power.
-/
namespace Go.Proofs.YtpfehnopghffjaaGreatDoor
open Go
namespace files
open room
def OkPuts (d : Disk) (l : List disk.Put) : Prop := ∀ p ∈ l, 0 ≤ p.sector ∧ p.sector < d.count ∧ p.data.length = 128
/-- a disk on which writes wait -/
def waitD (d : Disk) (l : List disk.Put) : Disk := { d with waits := l }
theorem do_one {d : Disk} {p : disk.Put} (hc : disk.checkF d = 0) (hp : 0 ≤ p.sector ∧ p.sector < d.count ∧ p.data.length = 128) (hl : d.waits.length < 4096) : disk.doF d [⟨false, p⟩] = (waitD d (d.waits ++ [p]), 0) := by
  unfold disk.doF
  rw [if_neg (fun h => h hc), disk.doN, if_neg (by simp), if_neg (by show ¬ (p.sector < 0 ∨ d.count ≤ p.sector); omega), if_neg (by show ¬ ¬ (p.data.length : Int) = 128; omega), if_neg (by omega)]
  rfl
theorem do_puts : ∀ (l : List disk.Put) {d : Disk}, disk.checkF d = 0 → OkPuts d l → d.waits.length + l.length ≤ 4096 → disk.doF d (putA l) = (waitD d (d.waits ++ l), 0) ∧ disk.checkF (waitD d (d.waits ++ l)) = 0
  | [], d, hc, _, _ => by
    have e : waitD d (d.waits ++ []) = d := by rw [List.append_nil]; rfl
    rw [e]
    refine ⟨?_, hc⟩
    unfold disk.doF
    rw [if_neg (fun h => h hc)]
    rfl
  | p :: l, d, hc, ho, hl => by
    have hp := ho p (by simp)
    rw [List.length_cons] at hl
    have hc2 : disk.checkF (waitD d (d.waits ++ [p])) = 0 := disk.check_put hc (by omega) hp
    obtain ⟨h1, h2⟩ := do_puts l (d := waitD d (d.waits ++ [p])) hc2 (fun q hq => ho q (by simp [hq])) (by show (d.waits ++ [p]).length + l.length ≤ 4096; rw [List.length_append, List.length_singleton]; omega)
    have e : waitD (waitD d (d.waits ++ [p])) ((waitD d (d.waits ++ [p])).waits ++ l) = waitD d (d.waits ++ p :: l) := by
      show waitD d ((d.waits ++ [p]) ++ l) = _
      rw [List.append_assoc]; rfl
    rw [e] at h1 h2
    refine ⟨?_, h2⟩
    show disk.doF d ([⟨false, p⟩] ++ putA l) = _
    rw [disk.doF_first_ok (do_one hc hp (by omega))]
    exact h1
theorem lastOf_app (a b : List disk.Put) (n : Int) : disk.lastOf (a ++ b) n = match disk.lastOf b n with | some x => some x | none => disk.lastOf a n := by
  unfold disk.lastOf
  rw [List.reverse_append, List.find?_append]
  cases (b.reverse.find? (fun p => p.sector = n)) <;> rfl
theorem lastOf_none {l : List disk.Put} {n : Int} (h : ∀ p ∈ l, ¬ p.sector = n) : disk.lastOf l n = none := by
  unfold disk.lastOf
  rw [List.find?_eq_none.2 (fun p hp => by simpa using h p (List.mem_reverse.1 hp))]
  rfl
theorem lastOf_some {l : List disk.Put} {n : Int} {b : Bs} (h : disk.lastOf l n = some b) : ∃ p ∈ l, p.sector = n ∧ p.data = b := by
  unfold disk.lastOf at h
  cases hf : l.reverse.find? (fun p => p.sector = n) with
  | none => rw [hf] at h; cases h
  | some p =>
    rw [hf] at h
    refine ⟨p, List.mem_reverse.1 (List.mem_of_find?_eq_some hf), by simpa using List.find?_some hf, by simpa using h⟩
theorem lastOf_of {l : List disk.Put} (hd : l.Pairwise (fun p q => p.sector ≠ q.sector)) {p : disk.Put} (hp : p ∈ l) : disk.lastOf l p.sector = some p.data := by
  cases h : disk.lastOf l p.sector with
  | none =>
    unfold disk.lastOf at h
    rw [Option.map_eq_none_iff, List.find?_eq_none] at h
    exact (h p (List.mem_reverse.2 hp) (decide_eq_true rfl)).elim
  | some b =>
    obtain ⟨q, hq, h1, h2⟩ := lastOf_some h
    have e : p = q := by
      obtain ⟨i, hi, rfl⟩ := List.getElem_of_mem hp
      obtain ⟨j, hj, rfl⟩ := List.getElem_of_mem hq
      rcases Nat.lt_trichotomy i j with h3 | h3 | h3
      · exact absurd h1.symm (List.pairwise_iff_getElem.1 hd i j hi hj h3)
      · subst h3; rfl
      · exact absurd h1 (List.pairwise_iff_getElem.1 hd j i hj hi h3)
    rw [e, h2]
theorem read_wait (d : Disk) (l : List disk.Put) (n : Int) (hw : d.waits = []) : disk.readF (waitD d l) n = match disk.lastOf l n with | some b => b | none => disk.readF d n := by
  unfold disk.readF
  rw [hw]
  rfl
theorem read_wait_app (d : Disk) (a b : List disk.Put) (n : Int) : disk.readF (waitD d (a ++ b)) n = match disk.lastOf b n with | some x => x | none => disk.readF (waitD d a) n := by
  unfold disk.readF
  show (match disk.lastOf (a ++ b) n with | some b => b | none => _) = _
  rw [lastOf_app]
  cases disk.lastOf b n <;> rfl
theorem read_wait_no {d : Disk} {l : List disk.Put} {n : Int} (hw : d.waits = []) (h : ∀ p ∈ l, ¬ p.sector = n) : disk.readF (waitD d l) n = disk.readF d n := by rw [read_wait d l n hw, lastOf_none h]
theorem crash_sec {x : Disk} (hc : disk.checkF x = 0) {n : Int} (h0 : 0 ≤ n) (hn : n < x.count) (keep : Nat → Bool) : disk.readF (disk.settleD x keep) n = disk.readF (waitD x []) n ∨ ∃ p ∈ x.waits, p.sector = n ∧ p.data = disk.readF (disk.settleD x keep) n := by
  have e : disk.readF (disk.settleD x keep) n = disk.lastK x keep n.toNat x.waits.length := by
    rw [disk.readF_settle, disk.settled_sec hc keep (by omega)]
  rw [e]
  rcases disk.lastK_or x keep n.toNat x.waits.length with h | ⟨i, p, h1, h2, h3⟩
  · exact .inl h
  · exact .inr ⟨p, List.mem_of_getElem? h1, by omega, h3⟩
theorem wait_none {x : Disk} (h : x.waits = []) : waitD x [] = x := by obtain ⟨c, d, w⟩ := x; simp only at h; subst h; rfl
/-- acts broken off: the first writes waited, or the last ones do -/
def Broken (d : Disk) (S D : List disk.Put) (y : Disk) : Prop :=
  (∀ n, 0 ≤ n → n < d.count → (∀ p ∈ S, ¬ p.sector = n) → disk.readF y n = disk.readF d n) ∨ ∀ n, 0 ≤ n → n < d.count → disk.readF y n = disk.readF (waitD d S) n ∨ ∃ p ∈ D, p.sector = n ∧ p.data = disk.readF y n
def flushS (S : List disk.Put) : List disk.Act := if S = [] then [] else [flushA]
def actsSD (S D : List disk.Put) : List disk.Act := putA S ++ flushS S ++ putA D ++ [flushA]
theorem do_flush {x : Disk} (hc : disk.checkF x = 0) : ∃ y, disk.doF x [flushA] = (y, 0) ∧ disk.checkF y = 0 ∧ y.count = x.count ∧ y.waits = [] ∧ ∀ n, 0 ≤ n → n < x.count → disk.readF y n = disk.readF x n :=
  ⟨disk.settleD x (fun _ => true), disk.flush_ok hc, disk.check_settle hc _, rfl, rfl, fun n h0 hn => by rw [disk.readF_settle, disk.flush_read hc h0 hn]⟩
theorem do_first {d : Disk} {S : List disk.Put} (hc : disk.checkF d = 0) (hw : d.waits = []) (hS : OkPuts d S) (hSl : S.length ≤ 4096) : ∃ x, disk.doF d (putA S ++ flushS S) = (x, 0) ∧ disk.checkF x = 0 ∧ x.count = d.count ∧ x.waits = [] ∧ ∀ n, 0 ≤ n → n < d.count → disk.readF x n = disk.readF (waitD d S) n := by
  by_cases hs : S = []
  · subst hs
    refine ⟨d, ?_, hc, rfl, hw, fun n _ _ => by rw [wait_none hw]⟩
    unfold disk.doF
    rw [if_neg (fun h => h hc)]
    rfl
  · obtain ⟨h1, h2⟩ := do_puts S hc hS (by rw [hw]; simpa using hSl)
    rw [hw, List.nil_append] at h1 h2
    obtain ⟨y, h3, h4, h5, h6, h7⟩ := do_flush h2
    refine ⟨y, ?_, h4, h5, h6, h7⟩
    have e : flushS S = [flushA] := by unfold flushS; rw [if_neg hs]
    rw [e, disk.doF_first_ok h1]
    exact h3
theorem ok_same {d x : Disk} {l : List disk.Put} (h : OkPuts d l) (hx : x.count = d.count) : OkPuts x l := fun p hp => by rw [hx]; exact h p hp
theorem do_take {d : Disk} {S D : List disk.Put} (hc : disk.checkF d = 0) (hw : d.waits = []) (hS : OkPuts d S) (hD : OkPuts d D) (hSl : S.length ≤ 4096) (hDl : D.length ≤ 4096) {n : Nat} (hn : n ≤ (actsSD S D).length) :
    ∃ x, disk.doF d ((actsSD S D).take n) = (x, 0) ∧ disk.checkF x = 0 ∧ x.count = d.count ∧ (n = (actsSD S D).length → x.waits = [] ∧ ∀ m, 0 ≤ m → m < d.count → disk.readF x m = disk.readF (waitD d (S ++ D)) m) ∧
      ∀ keep, Broken d S D (disk.settleD x keep) ∧ (n = (actsSD S D).length → ∀ m, 0 ≤ m → m < d.count → disk.readF (disk.settleD x keep) m = disk.readF (waitD d (S ++ D)) m) := by
  have hlS : (putA S).length = S.length := by simp [putA]
  have hlD : (putA D).length = D.length := by simp [putA]
  have hfl : (flushS S).length ≤ 1 := by unfold flushS; split <;> simp
  have hL : (actsSD S D).length = S.length + (flushS S).length + D.length + 1 := by unfold actsSD; simp only [List.length_append, hlS, hlD, List.length_singleton]
  by_cases hle : n ≤ S.length
  · have ht : (actsSD S D).take n = putA (S.take n) := by
      unfold actsSD
      rw [List.append_assoc, List.append_assoc, List.take_append_of_le_length (by omega)]
      unfold putA
      rw [List.map_take]
    have hSn : OkPuts d (S.take n) := fun p hp => hS p (List.mem_of_mem_take hp)
    obtain ⟨h1, h2⟩ := do_puts (S.take n) hc hSn (by rw [hw, List.length_take]; simp; omega)
    rw [hw, List.nil_append] at h1 h2
    refine ⟨_, by rw [ht]; exact h1, h2, rfl, fun h => by omega, fun keep => ⟨.inl fun m h0 hm hno => ?_, fun h => by omega⟩⟩
    rcases crash_sec h2 h0 hm keep with h | ⟨p, hp, h3, _⟩
    · rw [h]
      show disk.readF (waitD d []) m = _
      rw [wait_none hw]
    · exact absurd h3 (hno p (List.mem_of_mem_take hp))
  · obtain ⟨x1, h1, h2, h3, h4, h5⟩ := do_first hc hw hS hSl
    have ht : (actsSD S D).take n = (putA S ++ flushS S) ++ (putA D ++ [flushA]).take (n - (putA S ++ flushS S).length) := by
      unfold actsSD
      rw [List.append_assoc (putA S ++ flushS S), List.take_append, List.take_of_length_le (by rw [List.length_append, hlS]; omega)]
    rw [ht, disk.doF_first_ok h1]
    have hk : n - (putA S ++ flushS S).length = n - (S.length + (flushS S).length) := by rw [List.length_append, hlS]
    rw [hk]
    have hD1 := ok_same hD h3
    by_cases hk2 : n - (S.length + (flushS S).length) ≤ D.length
    · have ht2 : (putA D ++ [flushA]).take (n - (S.length + (flushS S).length)) = putA (D.take (n - (S.length + (flushS S).length))) := by
        rw [List.take_append_of_le_length (by omega)]
        unfold putA
        rw [List.map_take]
      have hDn : OkPuts x1 (D.take (n - (S.length + (flushS S).length))) := fun p hp => hD1 p (List.mem_of_mem_take hp)
      obtain ⟨k1, k2⟩ := do_puts _ h2 hDn (by rw [h4, List.length_take]; simp; omega)
      rw [h4, List.nil_append] at k1 k2
      refine ⟨_, by rw [ht2]; exact k1, k2, h3, fun h => by omega, fun keep => ⟨.inr fun m h0 hm => ?_, fun h => by omega⟩⟩
      rcases crash_sec k2 h0 (by show m < x1.count; omega) keep with h | ⟨p, hp, h6, h7⟩
      · left
        rw [h]
        show disk.readF (waitD x1 []) m = _
        rw [wait_none h4, h5 m h0 hm]
      · exact .inr ⟨p, List.mem_of_mem_take hp, h6, h7⟩
    · have ht2 : (putA D ++ [flushA]).take (n - (S.length + (flushS S).length)) = putA D ++ [flushA] := List.take_of_length_le (by rw [List.length_append, hlD, List.length_singleton]; omega)
      obtain ⟨k1, k2⟩ := do_puts D h2 hD1 (by rw [h4]; simpa using hDl)
      rw [h4, List.nil_append] at k1 k2
      obtain ⟨y, j1, j2, j3, j4, j5⟩ := do_flush k2
      have hr : ∀ m, 0 ≤ m → m < d.count → disk.readF y m = disk.readF (waitD d (S ++ D)) m := fun m h0 hm => by
        rw [j5 m h0 (by show m < x1.count; omega), read_wait_app, read_wait x1 D m h4]
        cases disk.lastOf D m with
        | some b => rfl
        | none => exact h5 m h0 hm
      have hy : y.count = d.count := by rw [j3]; exact h3
      have hcr : ∀ keep m, 0 ≤ m → m < d.count → disk.readF (disk.settleD y keep) m = disk.readF (waitD d (S ++ D)) m := fun keep m h0 hm => by
        rcases crash_sec j2 h0 (by omega) keep with h | ⟨p, hp, _⟩
        · rw [h, wait_none j4, hr m h0 hm]
        · rw [j4] at hp; cases hp
      refine ⟨y, by rw [ht2, disk.doF_first_ok k1]; exact j1, j2, hy, fun _ => ⟨j4, hr⟩, fun keep => ⟨.inr fun m h0 hm => ?_, fun _ => hcr keep⟩⟩
      have := hcr keep m h0 hm
      rw [read_wait_app] at this
      cases hl : disk.lastOf D m with
      | none => rw [hl] at this; exact .inl this
      | some b =>
        rw [hl] at this
        obtain ⟨p, hp, h6, h7⟩ := lastOf_some hl
        exact .inr ⟨p, hp, h6, by rw [this, h7]⟩
end files
end Go.Proofs.YtpfehnopghffjaaGreatDoor
