import Derived.Test.YthliepcjfnjnoaaGreatDoorB18
import Derived.Test.YthliepcjfnjnoaaGreatDoorB10
import Derived.Test.YthliepcjfnjnoaaGreatDoorB12
import Derived.Test.YthliepcjfnjnoaaGreatDoorB09
import Derived.Test.YthliepcjfnjnoaaGreatDoorB17
import Derived.Test.YthliepcjfnjnoaaGreatDoorB13
set_option linter.unusedVariables false
set_option linter.unusedSimpArgs false
namespace Go.Proofs.YthliepcjfnjnoaaGreatDoor
open Go
namespace files
open room
theorem flat_length {α : Type} {f : Nat → List α} {k : Nat} : ∀ n, (∀ i, i < n → (f i).length = k) → ((List.range n).flatMap f).length = n * k
  | 0, _ => by simp
  | n + 1, h => by
    rw [List.range_succ, List.flatMap_append, List.length_append, flat_length n (fun i hi => h i (by omega)), List.flatMap_cons, List.flatMap_nil, List.append_nil, h n (by omega), Nat.succ_mul]
theorem flat_block {α : Type} {f : Nat → List α} {k : Nat} : ∀ n, (∀ i, i < n → (f i).length = k) → ∀ i, i < n → (((List.range n).flatMap f).drop (i * k)).take k = f i
  | 0, _, i, hi => by omega
  | n + 1, h, i, hi => by
    have hl := flat_length (f := f) n (fun i hi => h i (by omega))
    rw [List.range_succ, List.flatMap_append, List.flatMap_cons, List.flatMap_nil, List.append_nil]
    by_cases he : i = n
    · subst he
      rw [List.drop_left' hl, List.take_of_length_le (by rw [h i hi]; exact Nat.le_refl _)]
    · have h1 : i * k + k ≤ n * k := by rw [← Nat.succ_mul]; exact Nat.mul_le_mul_right _ (by omega)
      rw [List.drop_append_of_le_length (by omega), List.take_append_of_le_length (by rw [List.length_drop, hl]; omega)]
      exact flat_block n (fun i hi => h i (by omega)) i (by omega)
theorem take_blocks {α : Type} (b : List α) (k : Nat) : ∀ n, (List.range n).flatMap (fun i => (b.drop (i * k)).take k) = b.take (n * k)
  | 0 => by simp
  | n + 1 => by
    rw [List.range_succ, List.flatMap_append, List.flatMap_cons, List.flatMap_nil, List.append_nil, take_blocks b k n, Nat.succ_mul, List.take_add]
theorem flat_congr {α : Type} {f g : Nat → List α} (n : Nat) (h : ∀ i, i < n → f i = g i) : (List.range n).flatMap f = (List.range n).flatMap g := by
  rw [List.flatMap_def, List.flatMap_def]
  congr 1
  exact List.map_congr_left (fun i hi => h i (List.mem_range.1 hi))
def secD (g : Nat) (b : Bs) (i : Nat) : Bs := put8 g ++ [UInt8.ofNat i] ++ (b.drop (i * 119)).take 119
theorem secD_length {g : Nat} {b : Bs} (hb : b.length = 952) {i : Nat} (hi : i < 8) : (secD g b i).length = 128 := by
  unfold secD
  simp only [List.length_append, put8_length, List.length_cons, List.length_nil, List.length_take, List.length_drop]
  omega
theorem slotsD_length {g : Nat} {b : Bs} (hb : b.length = 952) : (slotsD g b).length = 1024 := flat_length (f := secD g b) 8 (fun i hi => secD_length hb hi)
theorem slotsD_sec {g : Nat} {b : Bs} (hb : b.length = 952) {i : Nat} (hi : i < 8) : ((slotsD g b).drop (i * 128)).take 128 = secD g b i := flat_block (f := secD g b) 8 (fun i hi => secD_length hb hi) i hi
theorem inner_slots {g : Nat} {b : Bs} (hb : b.length = 952) : innerD (slotsD g b) = b := by
  unfold innerD
  rw [flat_congr 8 (g := fun i => (b.drop (i * 119)).take 119) (fun i hi => ?_), take_blocks, List.take_of_length_le (by omega)]
  rw [slotsD_sec hb hi]
  unfold secD
  rw [List.drop_left' (by simp [put8_length])]
theorem getTo_putA (n : Nat) (r : Bs) : ∀ i, i ≤ 8 → getTo (put8 n ++ r) i = n % 2 ^ (8 * i)
  | 0, _ => by simp [getTo, Nat.mod_one]
  | i + 1, h => by
    have e : (put8 n ++ r).getD i 0 = byteOf n i := by
      rw [List.getD_eq_getElem?_getD, List.getElem?_append_left (by rw [put8_length]; omega)]
      unfold put8
      rw [List.getElem?_map, List.getElem?_range (by omega)]
      rfl
    have e2 : (byteOf n i).toNat = n / 2 ^ (8 * i) % 256 := by unfold byteOf; simp
    rw [getTo, getTo_putA n r i (by omega), e, e2, show 8 * (i + 1) = 8 * i + 8 by omega, Nat.pow_add, Nat.mod_mul, Nat.mul_comm (n / 2 ^ (8 * i) % 256)]
theorem getTo_put8 {n : Nat} (r : Bs) (h : n < 18446744073709551616) : getTo (put8 n ++ r) 8 = n := by
  rw [getTo_putA n r 8 (by omega)]
  exact Nat.mod_eq_of_lt h
theorem slotsD_gen {g : Nat} {b : Bs} (h : g < 18446744073709551616) : getTo (slotsD g b) 8 = g := by
  have e : slotsD g b = put8 g ++ ([UInt8.ofNat 0] ++ (b.drop (0 * 119)).take 119 ++ (List.range' 1 7).flatMap (secD g b)) := by
    unfold slotsD
    rw [show List.range 8 = 0 :: List.range' 1 7 from rfl, List.flatMap_cons]
    simp only [List.append_assoc]
    rfl
  rw [e, getTo_put8 _ h]
theorem numS_small {n m : Nat} (r : Bs) (h : n < 18446744073709551616) (hm : n ≤ m) : numS m (smallF n ++ r) = some (n, r) := by
  rw [numS_eq, read_small r h, if_neg (fun hx => hx.elim (fun h => h rfl) (fun h => by simp only at h; omega))]
  simp only [List.drop_left]
theorem cutS_text {s : Bs} (r : Bs) (h : s.length < 18446744073709551616) : cutS (textF s ++ r) = some (s, r) := by
  unfold cutS
  rw [cut_text r h, if_neg (fun h => h rfl)]
theorem pieces_back : ∀ (l acc : List Piece) (r : Bs), (∀ p ∈ l, 0 ≤ p.fr ∧ p.fr < 4096 ∧ 1 ≤ p.ct ∧ p.ct ≤ 4096) → piecesS 4096 l.length acc (l.flatMap pieceB ++ r) = some (acc ++ l, r)
  | [], acc, r, _ => by simp [piecesS_0]
  | p :: l, acc, r, h => by
    obtain ⟨h1, h2, h3, h4⟩ := h p (by simp)
    have e : (p :: l).flatMap pieceB ++ r = smallF p.fr.toNat ++ (smallF p.ct.toNat ++ (l.flatMap pieceB ++ r)) := by
      simp only [List.flatMap_cons, pieceB, List.append_assoc]
    rw [List.length_cons, piecesS_s, e, numS_small _ (by omega) (by omega)]
    simp only [Option.bind_some]
    rw [numS_small _ (by omega) (by omega)]
    simp only [Option.bind_some]
    rw [pieces_back l _ r (fun q hq => h q (by simp [hq]))]
    have e2 : (⟨((p.fr.toNat : Nat) : Int), ((p.ct.toNat : Nat) : Int)⟩ : Piece) = p := by
      rw [Int.toNat_of_nonneg h1, Int.toNat_of_nonneg (by omega)]
    rw [e2, List.append_assoc]
    rfl
theorem files_back : ∀ (l acc : List File) (r : Bs), (∀ f ∈ l, f.name.length ≤ 32 ∧ (0 ≤ f.size ∧ f.size ≤ 524288) ∧ f.ps.length ≤ 4096 ∧ ∀ p ∈ f.ps, 0 ≤ p.fr ∧ p.fr < 4096 ∧ 1 ≤ p.ct ∧ p.ct ≤ 4096) → filesS 4096 l.length acc (l.flatMap fileB ++ r) = some (acc ++ l, r)
  | [], acc, r, _ => by simp [filesS_0]
  | f :: l, acc, r, h => by
    obtain ⟨h1, ⟨h2, h3⟩, h4, h5⟩ := h f (by simp)
    have e : (f :: l).flatMap fileB ++ r = textF f.name ++ (smallF f.size.toNat ++ (smallF f.ps.length ++ (f.ps.flatMap pieceB ++ (l.flatMap fileB ++ r)))) := by
      simp only [List.flatMap_cons, fileB, List.append_assoc]
    rw [List.length_cons, filesS_s, e, cutS_text _ (by omega)]
    simp only [Option.bind_some]
    rw [numS_small _ (by omega) (by omega)]
    simp only [Option.bind_some]
    rw [numS_small _ (by omega) (by omega)]
    simp only [Option.bind_some]
    rw [pieces_back _ _ _ h5]
    simp only [Option.bind_some]
    rw [files_back l _ r (fun q hq => h q (by simp [hq]))]
    have e2 : (⟨f.name, ((f.size.toNat : Nat) : Int), [] ++ f.ps⟩ : File) = f := by
      rw [Int.toNat_of_nonneg h2, List.nil_append]
    rw [e2, List.append_assoc]
    rfl
theorem body_back {x : Dir} (hl : x.fs.length ≤ 32) (h : mayD x) (r : Bs) : parseS 4096 (bodyD x.fs ++ r) = some x.fs := by
  unfold parseS
  have e : bodyD x.fs ++ r = smallF x.fs.length ++ (x.fs.flatMap fileB ++ r) := by rw [bodyD, List.append_assoc]
  rw [e, numS_small _ (by omega) hl]
  simp only [Option.bind_some]
  rw [files_back _ _ _ (fun f hf => ?_)]
  · rfl
  · obtain ⟨i, hi, rfl⟩ := List.getElem_of_mem hf
    obtain ⟨h1, h2, h3⟩ := file_ok h hi
    exact ⟨h1, h2, h3, fun p hp => piece_ok h hf hp⟩
theorem writeF_len {x : Dir} {b : Bs} (h : writeF x = (b, 0)) : b.length = 1024 := by
  obtain ⟨_, h1, rfl⟩ := writeF_ok h
  exact slotsD_length (by rw [List.length_append, List.length_replicate]; omega)
theorem read_write {x : Dir} {b : Bs} (h : writeF x = (b, 0)) : readD b = (x, 0) := by
  have hl := writeF_len h
  obtain ⟨hc, hb, he⟩ := writeF_ok h
  obtain ⟨h32, hm⟩ := checkD_ok hc
  obtain ⟨hg1, hg2⟩ := hm.1
  have hlen : (bodyD x.fs ++ List.replicate (952 - (bodyD x.fs).length) (0 : UInt8)).length = 952 := by rw [List.length_append, List.length_replicate]; omega
  have hp : parseS 4096 (innerD b) = some x.fs := by
    rw [he, inner_slots hlen]
    exact body_back h32 hm _
  have hg : (getTo b 8 : Int) = x.gen := by
    rw [he, slotsD_gen (by omega), Int.toNat_of_nonneg (by omega)]
  have e : (⟨min (getTo b 8 : Int) 4611686018427387904, x.fs⟩ : Dir) = x := by
    rw [hg, Int.min_eq_left (by omega)]
  unfold readD
  rw [freadG_ok hl hp (by rw [e]; exact h), e]
theorem write_read {b : Bs} (h : (readD b).2 = 0) : writeF (readD b).1 = (b, 0) := by
  unfold readD at h ⊢
  by_cases hl : b.length = 1024
  · cases hp : parseS 4096 (innerD b) with
    | none => rw [freadG_none hl hp] at h; cases h
    | some l =>
      by_cases hw : writeF ⟨min (getTo b 8 : Int) 4611686018427387904, l⟩ = (b, 0)
      · rw [freadG_ok hl hp hw]; exact hw
      · rw [freadG_no hl hp hw] at h; cases h
  · rw [freadG_len hl] at h; cases h
theorem read_bad {b : Bs} (h : ¬ (readD b).2 = 0) : readD b = (⟨0, []⟩, 8) := by
  unfold readD at h ⊢
  by_cases hl : b.length = 1024
  · cases hp : parseS 4096 (innerD b) with
    | none => rw [freadG_none hl hp]
    | some l =>
      by_cases hw : writeF ⟨min (getTo b 8 : Int) 4611686018427387904, l⟩ = (b, 0)
      · rw [freadG_ok hl hp hw] at h; exact absurd rfl h
      · rw [freadG_no hl hp hw]
  · rw [freadG_len hl]
end files
end Go.Proofs.YthliepcjfnjnoaaGreatDoor
namespace Go.Proofs.YthliepcjfnjnoaaGreatDoor
open Go
namespace files
open room
abbrev Change := tree.Change
abbrev Disk := disk.Disk
def nodir : Dir := ⟨0, []⟩
def slotB (d : Disk) (n : Nat) : Bs := (List.range 8).flatMap (fun i => disk.readF d ((n + i : Nat) : Int))
noncomputable def slotF (d : Disk) (n : Nat) : Dir := (readD (slotB d n)).1
def slotOK (d : Disk) (n : Nat) : Prop := (readD (slotB d n)).2 = 0 ∧ checkR d.count (allP (slotF d n).fs) = 0
open Classical in
noncomputable def mountF (d : Disk) : Dir × Nat × Int :=
  if ¬ disk.checkF d = 0 then (nodir, 0, disk.checkF d) else if d.count < 96 then (nodir, 0, 40) else
  if slotOK d 0 ∧ ¬ (slotOK d 8 ∧ (slotF d 0).gen < (slotF d 8).gen) then (slotF d 0, 0, 0) else if slotOK d 8 then (slotF d 8, 8, 0) else (nodir, 0, 40)
theorem mountF_e {d : Disk} (h : ¬ disk.checkF d = 0) : mountF d = (nodir, 0, disk.checkF d) := by unfold mountF; rw [if_pos h]
theorem mountF_96 {d : Disk} (h : disk.checkF d = 0) (h2 : d.count < 96) : mountF d = (nodir, 0, 40) := by unfold mountF; rw [if_neg (fun x => x h), if_pos h2]
theorem mountF_0 {d : Disk} (h : disk.checkF d = 0) (h2 : ¬ d.count < 96) (h3 : slotOK d 0) (h4 : ¬ (slotOK d 8 ∧ (slotF d 0).gen < (slotF d 8).gen)) : mountF d = (slotF d 0, 0, 0) := by unfold mountF; rw [if_neg (fun x => x h), if_neg h2, if_pos ⟨h3, h4⟩]
theorem mountF_8 {d : Disk} (h : disk.checkF d = 0) (h2 : ¬ d.count < 96) (h3 : ¬ (slotOK d 0 ∧ ¬ (slotOK d 8 ∧ (slotF d 0).gen < (slotF d 8).gen))) (h4 : slotOK d 8) : mountF d = (slotF d 8, 8, 0) := by unfold mountF; rw [if_neg (fun x => x h), if_neg h2, if_neg h3, if_pos h4]
theorem mountF_40 {d : Disk} (h : disk.checkF d = 0) (h2 : ¬ d.count < 96) (h3 : ¬ slotOK d 0) (h4 : ¬ slotOK d 8) : mountF d = (nodir, 0, 40) := by unfold mountF; rw [if_neg (fun x => x h), if_neg h2, if_neg (fun h => h3 h.1), if_neg h4]
theorem mountF_ok {d : Disk} (h : (mountF d).2.2 = 0) : disk.checkF d = 0 ∧ 96 ≤ d.count ∧ ((mountF d).2.1 = 0 ∨ (mountF d).2.1 = 8) ∧ slotOK d (mountF d).2.1 ∧ (mountF d).1 = slotF d (mountF d).2.1 := by
  by_cases h1 : disk.checkF d = 0
  · by_cases h2 : d.count < 96
    · rw [mountF_96 h1 h2] at h; cases h
    · by_cases h3 : slotOK d 0 ∧ ¬ (slotOK d 8 ∧ (slotF d 0).gen < (slotF d 8).gen)
      · rw [mountF_0 h1 h2 h3.1 h3.2]; exact ⟨h1, by omega, .inl rfl, h3.1, rfl⟩
      · by_cases h4 : slotOK d 8
        · rw [mountF_8 h1 h2 h3 h4]; exact ⟨h1, by omega, .inr rfl, h4, rfl⟩
        · rw [mountF_40 h1 h2 (fun h => h3 ⟨h, fun x => h4 x.1⟩) h4] at h; cases h
  · rw [mountF_e h1] at h; exact absurd h h1
theorem mountF_bad {d : Disk} (h : ¬ (mountF d).2.2 = 0) : (mountF d).1 = nodir ∧ (mountF d).2.1 = 0 := by
  by_cases h1 : disk.checkF d = 0
  · by_cases h2 : d.count < 96
    · rw [mountF_96 h1 h2]; exact ⟨rfl, rfl⟩
    · by_cases h3 : slotOK d 0 ∧ ¬ (slotOK d 8 ∧ (slotF d 0).gen < (slotF d 8).gen)
      · rw [mountF_0 h1 h2 h3.1 h3.2] at h; exact absurd rfl h
      · by_cases h4 : slotOK d 8
        · rw [mountF_8 h1 h2 h3 h4] at h; exact absurd rfl h
        · rw [mountF_40 h1 h2 (fun h => h3 ⟨h, fun x => h4 x.1⟩) h4]; exact ⟨rfl, rfl⟩
  · rw [mountF_e h1]; exact ⟨rfl, rfl⟩
def findTo (s : Bs) : List File → Int → Int
  | [], _ => -1
  | f :: l, i => if f.name = s then i else findTo s l (i + 1)
def findF (x : Dir) (s : Bs) : Int := findTo s x.fs 0
def oneW (x : Dir) (seen : List Bs) (c : Change) : Int := if ¬ nameF c.key = true then 5 else if c.key ∈ seen then 8 else if c.gone = true ∧ findF x c.key < 0 then 6 else 0
def chgW (x : Dir) : List Bs → List Change → Int
  | _, [] => 0
  | seen, c :: r => if ¬ oneW x seen c = 0 then oneW x seen c else chgW x (seen ++ [c.key]) r
def wrongF (x : Dir) (l : List Change) : Int := if 64 < l.length then 4 else chgW x [] l
def keepN (x : Dir) (l : List Change) : List File := x.fs.filter (fun f => !decide (f.name ∈ l.map (·.key)))
def freshN (l : List Change) : List Change := l.filter (fun c => !c.gone)
def insF : List File → File → List File
  | [], f => [f]
  | g :: l, f => if Op.bytesLess f.name g.name = true then f :: g :: l else g :: insF l f
def sortN (l : List File) : List File := l.foldl insF []
def secV (v : Bs) (i : Nat) : Bs := (v.drop (i * 128)).take 128 ++ List.replicate (128 - ((v.drop (i * 128)).take 128).length) 0
def sectE (p : List Piece) : List Int := if checkR 4096 p = 0 then sectF p else []
def putsV (p : List Piece) (v : Bs) : List disk.Put := (List.range (sectE p).length).map (fun i => ⟨(sectE p).getD i 0, secV v i⟩)
def putA (l : List disk.Put) : List disk.Act := l.map (fun p => ⟨false, p⟩)
def actsV (p : List Piece) (v : Bs) : List disk.Act := putA (putsV p v)
def putsF (count : Int) : List Change → List File → List disk.Act → List Piece → List File × List disk.Act × Int
  | [], fs, zs, used => (fs, zs, 0)
  | c :: l, fs, zs, used =>
    if 4096 < needF c.value.length then ([], [], 30) else if ¬ takeE 80 count used (needF c.value.length) = 0 then ([], [], takeE 80 count used (needF c.value.length)) else
    putsF count l (fs ++ [⟨c.key, c.value.length, takeL 80 count used (needF c.value.length)⟩]) (zs ++ actsV (takeL 80 count used (needF c.value.length)) c.value) (used ++ takeL 80 count used (needF c.value.length))
def genTo (d : Disk) (other : Nat) (g : Int) : Nat → Int
  | 0 => g
  | i + 1 => if getTo ((disk.readF d ((other + i : Nat) : Int)).take 8) 8 < 4611686018427387904 then max (genTo d other g i) (getTo ((disk.readF d ((other + i : Nat) : Int)).take 8) 8 : Nat) else genTo d other g i
def genN (d : Disk) (other : Nat) (g : Int) : Int := genTo d other g 8 + 1
def flushA : disk.Act := ⟨true, 0, []⟩
def dirP (b : Bs) (other : Nat) : List disk.Put := (List.range 8).map (fun i => ⟨((other + i : Nat) : Int), (b.drop (i * 128)).take 128⟩)
def dirA (b : Bs) (other : Nat) : List disk.Act := putA (dirP b other)
def actsN (zs : List disk.Act) (b : Bs) (other : Nat) : List disk.Act := zs ++ (if zs = [] then [] else [flushA]) ++ dirA b other ++ [flushA]
def turnD (d : Disk) (x : Dir) (at_ : Nat) (fs : List File) : Dir := ⟨genN d (8 - at_) x.gen, sortN fs⟩
noncomputable def turnF (d : Disk) (l : List Change) : List disk.Act × Int :=
  if ¬ (mountF d).2.2 = 0 then ([], (mountF d).2.2) else if ¬ wrongF (mountF d).1 l = 0 then ([], wrongF (mountF d).1 l) else
  if 32 < (keepN (mountF d).1 l).length + (freshN l).length then ([], 42) else
  if ¬ (putsF d.count (freshN l) (keepN (mountF d).1 l) [] (allP (mountF d).1.fs)).2.2 = 0 then ([], (putsF d.count (freshN l) (keepN (mountF d).1 l) [] (allP (mountF d).1.fs)).2.2) else
  if ¬ (writeF (turnD d (mountF d).1 (mountF d).2.1 (putsF d.count (freshN l) (keepN (mountF d).1 l) [] (allP (mountF d).1.fs)).1)).2 = 0 then ([], 42) else
  (actsN (putsF d.count (freshN l) (keepN (mountF d).1 l) [] (allP (mountF d).1.fs)).2.1 (writeF (turnD d (mountF d).1 (mountF d).2.1 (putsF d.count (freshN l) (keepN (mountF d).1 l) [] (allP (mountF d).1.fs)).1)).1 (8 - (mountF d).2.1), 0)
noncomputable def formatF (n : Int) : Disk × Int := if n < 96 ∨ 4096 < n then (disk.nodisk, 20) else (⟨n, (writeF ⟨1, []⟩).1 ++ List.replicate (n.toNat * 128 - 1024) 0, []⟩, 0)
def bytesF (d : Disk) (f : File) : Bs := ((sectE f.ps).flatMap (fun n => disk.readF d n)).take f.size.toNat
noncomputable def namesF (d : Disk) : List Bs × Int := ((mountF d).1.fs.map (·.name), (mountF d).2.2)
end files
end Go.Proofs.YthliepcjfnjnoaaGreatDoor
namespace Go.Proofs.YthliepcjfnjnoaaGreatDoor
open Go
namespace files
open room
theorem bl_cons (a b : UInt8) (x y : Bs) : Op.bytesLess (a :: x) (b :: y) = true ↔ a < b ∨ (a = b ∧ Op.bytesLess x y = true) := by simp [Op.bytesLess]
theorem bl_irr : ∀ a : Bs, ¬ Op.bytesLess a a = true
  | [] => by simp [Op.bytesLess]
  | a :: x => by
    rw [bl_cons]
    rintro (h | ⟨_, h⟩)
    · exact UInt8.lt_irrefl a h
    · exact bl_irr x h
theorem bl_trans : ∀ {a b c : Bs}, Op.bytesLess a b = true → Op.bytesLess b c = true → Op.bytesLess a c = true
  | [], [], _, h, _ => by simp [Op.bytesLess] at h
  | _ :: _, [], _, h, _ => by simp [Op.bytesLess] at h
  | [], _ :: _, [], _, h => by simp [Op.bytesLess] at h
  | [], _ :: _, _ :: _, _, _ => by simp [Op.bytesLess]
  | _ :: _, _ :: _, [], _, h => by simp [Op.bytesLess] at h
  | a :: x, b :: y, c :: z, h, k => by
    rw [bl_cons] at h k ⊢
    rcases h with h | ⟨rfl, h⟩
    · rcases k with k | ⟨rfl, k⟩
      · exact .inl (UInt8.lt_trans h k)
      · exact .inl h
    · rcases k with k | ⟨rfl, k⟩
      · exact .inl k
      · exact .inr ⟨rfl, bl_trans h k⟩
theorem bl_tri : ∀ a b : Bs, Op.bytesLess a b = true ∨ a = b ∨ Op.bytesLess b a = true
  | [], [] => .inr (.inl rfl)
  | [], _ :: _ => .inl (by simp [Op.bytesLess])
  | _ :: _, [] => .inr (.inr (by simp [Op.bytesLess]))
  | a :: x, b :: y => by
    rw [bl_cons, bl_cons]
    by_cases h1 : a < b
    · exact .inl (.inl h1)
    · by_cases h2 : b < a
      · exact .inr (.inr (.inl h2))
      · have e : a = b := UInt8.le_antisymm (UInt8.not_lt.1 h2) (UInt8.not_lt.1 h1)
        subst e
        rcases bl_tri x y with h | h | h
        · exact .inl (.inr ⟨rfl, h⟩)
        · exact .inr (.inl (by rw [h]))
        · exact .inr (.inr (.inr ⟨rfl, h⟩))
theorem sorted_ext {α : Type} {lt : α → α → Prop} (irr : ∀ a, ¬ lt a a) (tr : ∀ {a b c}, lt a b → lt b c → lt a c) : ∀ {l m : List α}, l.Pairwise lt → m.Pairwise lt → (∀ a, a ∈ l ↔ a ∈ m) → l = m
  | [], [], _, _, _ => rfl
  | [], b :: m, _, _, h => absurd ((h b).2 (by simp)) (by simp)
  | a :: l, [], _, _, h => absurd ((h a).1 (by simp)) (by simp)
  | a :: l, b :: m, hl, hm, h => by
    obtain ⟨hl1, hl2⟩ := List.pairwise_cons.1 hl
    obtain ⟨hm1, hm2⟩ := List.pairwise_cons.1 hm
    have e : a = b := by
      rcases List.mem_cons.1 ((h a).1 (by simp)) with e | h1
      · exact e
      · rcases List.mem_cons.1 ((h b).2 (by simp)) with e | h2
        · exact e.symm
        · exact absurd (tr (hm1 a h1) (hl1 b h2)) (irr b)
    subst e
    congr 1
    refine sorted_ext irr tr hl2 hm2 (fun x => ⟨fun hx => ?_, fun hx => ?_⟩)
    · rcases List.mem_cons.1 ((h x).1 (by simp [hx])) with e | h1
      · subst e; exact absurd (hl1 _ hx) (irr _)
      · exact h1
    · rcases List.mem_cons.1 ((h x).2 (by simp [hx])) with e | h1
      · subst e; exact absurd (hm1 _ hx) (irr _)
      · exact h1
def ltN (f g : File) : Prop := Op.bytesLess f.name g.name = true
def UpN (l : List File) : Prop := l.Pairwise ltN
theorem ltN_ne {a b : File} (h : ltN a b) : a.name ≠ b.name := fun e => by
  unfold ltN at h
  rw [e] at h
  exact bl_irr _ h
theorem insF_mem {f g : File} : ∀ {l : List File}, g ∈ insF l f ↔ g = f ∨ g ∈ l
  | [] => by simp [insF]
  | x :: l => by
    rw [insF]
    split
    · simp
    · rw [List.mem_cons, insF_mem (l := l), List.mem_cons]
      constructor
      · rintro (h | h | h)
        · exact .inr (.inl h)
        · exact .inl h
        · exact .inr (.inr h)
      · rintro (h | h | h)
        · exact .inr (.inl h)
        · exact .inl h
        · exact .inr (.inr h)
theorem insF_up {f : File} : ∀ {l : List File}, UpN l → (∀ g ∈ l, g.name ≠ f.name) → UpN (insF l f)
  | [], _, _ => List.pairwise_singleton _ _
  | x :: l, h, hn => by
    obtain ⟨h1, h2⟩ := List.pairwise_cons.1 h
    rw [insF]
    split
    · rename_i hlt
      refine List.pairwise_cons.2 ⟨fun g hg => ?_, h⟩
      rcases List.mem_cons.1 hg with rfl | hg
      · exact hlt
      · exact bl_trans hlt (h1 g hg)
    · rename_i hlt
      refine List.pairwise_cons.2 ⟨fun g hg => ?_, insF_up h2 (fun g hg => hn g (by simp [hg]))⟩
      rcases insF_mem.1 hg with rfl | hg
      · rcases bl_tri x.name g.name with h3 | h3 | h3
        · exact h3
        · exact absurd h3 (hn x (by simp))
        · exact absurd h3 hlt
      · exact h1 g hg
theorem foldl_ins : ∀ {l k : List File}, UpN k → (k ++ l).Pairwise (fun f g => f.name ≠ g.name) → UpN (l.foldl insF k) ∧ ∀ g, g ∈ l.foldl insF k ↔ g ∈ k ∨ g ∈ l
  | [], k, hk, _ => ⟨hk, fun g => by simp⟩
  | f :: l, k, hk, hd => by
    obtain ⟨h1, h2, h3⟩ := List.pairwise_append.1 hd
    obtain ⟨h4, h5⟩ := List.pairwise_cons.1 h2
    have hn : ∀ g ∈ k, g.name ≠ f.name := fun g hg => h3 g hg f (by simp)
    have hd2 : (insF k f ++ l).Pairwise (fun f g => f.name ≠ g.name) := by
      refine List.pairwise_append.2 ⟨(insF_up hk hn).imp (fun h => ltN_ne h), h5, fun a ha b hb => ?_⟩
      rcases insF_mem.1 ha with rfl | ha
      · exact h4 b hb
      · exact h3 a ha b (by simp [hb])
    obtain ⟨i1, i2⟩ := foldl_ins (insF_up hk hn) hd2
    refine ⟨i1, fun g => ?_⟩
    rw [List.foldl_cons, i2 g, insF_mem, List.mem_cons]
    constructor
    · rintro ((h | h) | h)
      · exact .inr (.inl h)
      · exact .inl h
      · exact .inr (.inr h)
    · rintro (h | h | h)
      · exact .inl (.inr h)
      · exact .inl (.inl h)
      · exact .inr h
theorem sortN_ok {l : List File} (hd : l.Pairwise (fun f g => f.name ≠ g.name)) : UpN (sortN l) ∧ ∀ g, g ∈ sortN l ↔ g ∈ l := by
  obtain ⟨h1, h2⟩ := foldl_ins (l := l) (k := []) .nil hd
  exact ⟨h1, fun g => by rw [sortN, h2 g]; simp⟩
theorem sortN_perm {l : List File} : (sortN l).Perm l := by
  have hi : ∀ (l : List File) (f : File), (insF l f).Perm (f :: l) := by
    intro l f
    induction l with
    | nil => exact .refl _
    | cons x l ih =>
      rw [insF]
      split
      · exact .refl _
      · exact (List.Perm.cons x ih).trans (List.Perm.swap f x l)
  have hf : ∀ (l k : List File), (l.foldl insF k).Perm (k ++ l) := by
    intro l
    induction l with
    | nil => intro k; rw [List.append_nil]; exact .refl _
    | cons f l ih =>
      intro k
      refine (ih (insF k f)).trans ?_
      refine ((hi k f).append_right l).trans ?_
      exact List.perm_middle.symm
  exact hf l []
theorem up_of {l : List File} (h : ∀ i (h : i < l.length), okAt l i h) : UpN l := by
  have key : ∀ n, n ≤ l.length → UpN (l.take n) := by
    intro n
    induction n with
    | zero => intro _; exact .nil
    | succ n ih =>
      intro hn
      have hi : n < l.length := by omega
      have ihn := ih (by omega)
      rw [List.take_succ_eq_append_getElem hi]
      refine List.pairwise_append.2 ⟨ihn, List.pairwise_singleton _ _, fun a ha b hb => ?_⟩
      rw [List.mem_singleton] at hb
      subst hb
      obtain ⟨j, hj, rfl⟩ := List.getElem_of_mem ha
      rw [List.length_take] at hj
      rw [List.getElem_take]
      have h0 : 0 < n := by omega
      have hlast := (h n hi).2.1 h0
      by_cases hjn : j = n - 1
      · subst hjn; exact hlast
      · have h2 := List.pairwise_iff_getElem.1 ihn j (n - 1) (by rw [List.length_take]; omega) (by rw [List.length_take]; omega) (by omega)
        rw [List.getElem_take, List.getElem_take] at h2
        exact bl_trans h2 hlast
  have := key l.length (Nat.le_refl _)
  rwa [List.take_length] at this
theorem up_ne {l : List File} (h : UpN l) : l.Pairwise (fun f g => f.name ≠ g.name) := h.imp (fun h => ltN_ne h)
theorem slot_may {d : Disk} {n : Nat} (h : slotOK d n) : writeF (slotF d n) = (slotB d n, 0) ∧ (slotF d n).fs.length ≤ 32 ∧ mayD (slotF d n) ∧ checkR d.count (allP (slotF d n).fs) = 0 := by
  have hw := write_read h.1
  obtain ⟨h1, h2⟩ := checkD_ok (writeF_ok hw).1
  exact ⟨hw, h1, h2, h.2⟩
theorem mount_may {d : Disk} (h : (mountF d).2.2 = 0) : disk.checkF d = 0 ∧ 96 ≤ d.count ∧ (mountF d).1.fs.length ≤ 32 ∧ mayD (mountF d).1 ∧ checkR d.count (allP (mountF d).1.fs) = 0 ∧ UpN (mountF d).1.fs := by
  obtain ⟨h1, h2, _, h3, h4⟩ := mountF_ok h
  obtain ⟨_, h5, h6, h7⟩ := slot_may h3
  rw [h4]
  exact ⟨h1, h2, h5, h6, h7, up_of h6.2.2.2⟩
theorem chgW_0 {x : Dir} : ∀ {l : List Change} {seen : List Bs}, chgW x seen l = 0 → (∀ c ∈ l, nameF c.key = true ∧ c.key ∉ seen ∧ (c.gone = true → ¬ findF x c.key < 0)) ∧ l.Pairwise (fun a b => a.key ≠ b.key)
  | [], _, _ => ⟨fun _ h => (by cases h), .nil⟩
  | c :: l, seen, h => by
    rw [chgW] at h
    split at h
    · rename_i h1; exact absurd h h1
    · rename_i h1
      have h1 := Decidable.not_not.1 h1
      obtain ⟨i1, i2⟩ := chgW_0 h
      have hc : nameF c.key = true ∧ c.key ∉ seen ∧ (c.gone = true → ¬ findF x c.key < 0) := by
        unfold oneW at h1
        split at h1
        · cases h1
        · rename_i h2
          split at h1
          · cases h1
          · rename_i h3
            split at h1
            · cases h1
            · rename_i h4
              exact ⟨Decidable.not_not.1 h2, h3, fun hg hf => h4 ⟨hg, hf⟩⟩
      refine ⟨fun d hd => ?_, List.pairwise_cons.2 ⟨fun d hd e => (i1 d hd).2.1 (by rw [← e]; simp), i2⟩⟩
      rcases List.mem_cons.1 hd with rfl | hd
      · exact hc
      · exact ⟨(i1 d hd).1, fun hs => (i1 d hd).2.1 (by simp [hs]), (i1 d hd).2.2⟩
theorem wrongF_0 {x : Dir} {l : List Change} (h : wrongF x l = 0) : l.length ≤ 64 ∧ (∀ c ∈ l, nameF c.key = true ∧ (c.gone = true → ¬ findF x c.key < 0)) ∧ l.Pairwise (fun a b => a.key ≠ b.key) := by
  unfold wrongF at h
  split at h
  · cases h
  · obtain ⟨h1, h2⟩ := chgW_0 h
    exact ⟨by omega, fun c hc => ⟨(h1 c hc).1, (h1 c hc).2.2⟩, h2⟩
end files
end Go.Proofs.YthliepcjfnjnoaaGreatDoor
namespace Go.Proofs.YthliepcjfnjnoaaGreatDoor
open Go
namespace files
open room
abbrev NV := Bs × Bs
def ltV (a b : NV) : Prop := Op.bytesLess a.1 b.1 = true
noncomputable def viewF (d : Disk) : List NV := (mountF d).1.fs.map (fun f => (f.name, bytesF d f))
def stepV (out : List NV) (c : Change) : List NV := out.filter (fun p => Op.bytesLess p.1 c.key) ++ (if c.gone = true then [] else [(c.key, c.value)]) ++ out.filter (fun p => Op.bytesLess c.key p.1)
noncomputable def map2F (d : Disk) (l : List Change) : List NV := l.foldl stepV (viewF d)
theorem stepV_mem {out : List NV} {c : Change} {p : NV} : p ∈ stepV out c ↔ (p ∈ out ∧ p.1 ≠ c.key) ∨ (c.gone = false ∧ p = (c.key, c.value)) := by
  unfold stepV
  simp only [List.mem_append, List.mem_filter]
  constructor
  · rintro ((⟨h1, h2⟩ | h) | ⟨h1, h2⟩)
    · exact .inl ⟨h1, fun e => bl_irr c.key (by rw [e] at h2; exact h2)⟩
    · cases hg : c.gone with
      | true => rw [hg, if_pos rfl] at h; cases h
      | false => rw [hg, if_neg (by exact Bool.false_ne_true)] at h; exact .inr ⟨rfl, by simpa using h⟩
    · exact .inl ⟨h1, fun e => bl_irr c.key (by rw [e] at h2; exact h2)⟩
  · rintro (⟨h1, h2⟩ | ⟨h1, rfl⟩)
    · rcases bl_tri p.1 c.key with h | h | h
      · exact .inl (.inl ⟨h1, h⟩)
      · exact absurd h h2
      · exact .inr ⟨h1, h⟩
    · exact .inl (.inr (by rw [h1, if_neg (by exact Bool.false_ne_true)]; simp))
theorem stepV_up {out : List NV} {c : Change} (h : out.Pairwise ltV) : (stepV out c).Pairwise ltV := by
  unfold stepV
  refine List.pairwise_append.2 ⟨List.pairwise_append.2 ⟨h.sublist (List.filter_sublist), ?_, ?_⟩, h.sublist (List.filter_sublist), ?_⟩
  · split
    · exact .nil
    · exact List.pairwise_singleton _ _
  · intro a ha b hb
    split at hb
    · cases hb
    · rw [List.mem_singleton] at hb
      subst hb
      exact (List.mem_filter.1 ha).2
  · intro a ha b hb
    have hb := (List.mem_filter.1 hb).2
    rcases List.mem_append.1 ha with ha | ha
    · exact bl_trans (List.mem_filter.1 ha).2 hb
    · split at ha
      · cases ha
      · rw [List.mem_singleton] at ha
        subst ha
        exact hb
theorem foldV : ∀ {l : List Change} {out : List NV}, out.Pairwise ltV → l.Pairwise (fun a b => a.key ≠ b.key) → (l.foldl stepV out).Pairwise ltV ∧ ∀ p, p ∈ l.foldl stepV out ↔ (p ∈ out ∧ ∀ c ∈ l, p.1 ≠ c.key) ∨ ∃ c ∈ l, c.gone = false ∧ p = (c.key, c.value)
  | [], out, h, _ => ⟨h, fun p => by simp⟩
  | c :: l, out, h, hd => by
    obtain ⟨h1, h2⟩ := List.pairwise_cons.1 hd
    obtain ⟨i1, i2⟩ := foldV (l := l) (stepV_up (c := c) h) h2
    refine ⟨i1, fun p => ?_⟩
    rw [List.foldl_cons, i2 p, stepV_mem]
    constructor
    · rintro (⟨⟨h3, h4⟩ | ⟨h3, h4⟩, h5⟩ | ⟨b, hb, h3, h4⟩)
      · exact .inl ⟨h3, fun b hb => by rcases List.mem_cons.1 hb with rfl | hb; exact h4; exact h5 b hb⟩
      · exact .inr ⟨c, by simp, h3, h4⟩
      · exact .inr ⟨b, by simp [hb], h3, h4⟩
    · rintro (⟨h3, h4⟩ | ⟨b, hb, h3, h4⟩)
      · exact .inl ⟨.inl ⟨h3, h4 c (by simp)⟩, fun b hb => h4 b (by simp [hb])⟩
      · rcases List.mem_cons.1 hb with rfl | hb
        · exact .inl ⟨.inr ⟨h3, h4⟩, fun a ha => by rw [h4]; exact h1 a ha⟩
        · exact .inr ⟨b, hb, h3, h4⟩
theorem view_up {d : Disk} (h : (mountF d).2.2 = 0) : (viewF d).Pairwise ltV := by
  obtain ⟨_, _, _, _, _, h2⟩ := mount_may h
  unfold viewF
  rw [List.pairwise_map]
  exact h2.imp (fun h => h)
theorem view_turned {d y : Disk} {l : List Change} {news : List File} (hd : (mountF d).2.2 = 0) (hw : wrongF (mountF d).1 l = 0) (hy : (mountF y).1.fs = sortN (keepN (mountF d).1 l ++ news))
    (hn : news.map (fun f => (f.name, bytesF y f)) = (freshN l).map (fun c => (c.key, c.value))) (hk : ∀ f ∈ keepN (mountF d).1 l, bytesF y f = bytesF d f) (hm : (mountF y).2.2 = 0) : viewF y = map2F d l := by
  obtain ⟨_, hw2, hw3⟩ := wrongF_0 hw
  obtain ⟨hu, hmm⟩ := foldV (view_up hd) hw3
  have hdist : (keepN (mountF d).1 l ++ news).Pairwise (fun f g => f.name ≠ g.name) := by
    obtain ⟨_, _, _, _, _, h2⟩ := mount_may hd
    have hnk : news.map (·.name) = (freshN l).map (·.key) := by
      have := congrArg (List.map Prod.fst) hn
      simpa [List.map_map, Function.comp_def] using this
    refine List.pairwise_append.2 ⟨(up_ne h2).sublist List.filter_sublist, ?_, fun a ha b hb => ?_⟩
    · rw [← List.pairwise_map (f := File.name) (R := fun a b => a ≠ b), hnk, List.pairwise_map]
      exact hw3.sublist List.filter_sublist
    · have h3 := (List.mem_filter.1 ha).2
      have hb' : b.name ∈ (freshN l).map (·.key) := by rw [← hnk]; exact List.mem_map.2 ⟨b, hb, rfl⟩
      obtain ⟨c, hc, hcb⟩ := List.mem_map.1 hb'
      intro e
      have : a.name ∈ l.map (·.key) := List.mem_map.2 ⟨c, (List.mem_filter.1 hc).1, by rw [hcb, e]⟩
      rw [decide_eq_true this] at h3
      cases h3
  refine sorted_ext (lt := ltV) (fun a => bl_irr _) (fun h k => bl_trans h k) (view_up hm) hu (fun p => ?_)
  unfold map2F
  rw [hmm p]
  unfold viewF
  rw [hy]
  constructor
  · intro h
    obtain ⟨f, hf, rfl⟩ := List.mem_map.1 h
    rcases List.mem_append.1 (((sortN_ok hdist).2 f).1 hf) with hf | hf
    · refine .inl ⟨List.mem_map.2 ⟨f, (List.mem_filter.1 hf).1, by rw [hk f hf]⟩, fun c hc e => ?_⟩
      have h3 := (List.mem_filter.1 hf).2
      have e : f.name = c.key := e
      have : f.name ∈ l.map (·.key) := List.mem_map.2 ⟨c, hc, e.symm⟩
      rw [decide_eq_true this] at h3
      cases h3
    · have : (f.name, bytesF y f) ∈ news.map (fun f => (f.name, bytesF y f)) := List.mem_map.2 ⟨f, hf, rfl⟩
      rw [hn] at this
      obtain ⟨c, hc, e⟩ := List.mem_map.1 this
      obtain ⟨hc1, hc2⟩ := List.mem_filter.1 hc
      exact .inr ⟨c, hc1, by simpa using hc2, e.symm⟩
  · rintro (⟨h1, h2⟩ | ⟨c, hc, h1, rfl⟩)
    · obtain ⟨f, hf, rfl⟩ := List.mem_map.1 h1
      have hkf : f ∈ keepN (mountF d).1 l := by
        refine List.mem_filter.2 ⟨hf, ?_⟩
        have : f.name ∉ l.map (·.key) := fun hx => by
          obtain ⟨c, hc, e⟩ := List.mem_map.1 hx
          exact h2 c hc e.symm
        rw [decide_eq_false this]; rfl
      exact List.mem_map.2 ⟨f, ((sortN_ok hdist).2 f).2 (List.mem_append_left _ hkf), by rw [hk f hkf]⟩
    · have : (c.key, c.value) ∈ (freshN l).map (fun c => (c.key, c.value)) := List.mem_map.2 ⟨c, List.mem_filter.2 ⟨hc, by rw [h1]; rfl⟩, rfl⟩
      rw [← hn] at this
      obtain ⟨f, hf, e⟩ := List.mem_map.1 this
      exact List.mem_map.2 ⟨f, ((sortN_ok hdist).2 f).2 (List.mem_append_right _ hf), e⟩
end files
end Go.Proofs.YthliepcjfnjnoaaGreatDoor
namespace Go.Proofs.YthliepcjfnjnoaaGreatDoor
open Go
namespace files
open room
theorem lastOf_none {l : List disk.Put} {n : Int} (h : ∀ p ∈ l, ¬ p.sector = n) : disk.lastOf l n = none := by
  unfold disk.lastOf
  rw [List.find?_eq_none.2 (fun p hp => by simpa using h p (List.mem_reverse.1 hp))]
  rfl
theorem lastOf_some {l : List disk.Put} {n : Int} {b : Bs} (h : disk.lastOf l n = some b) : ∃ p ∈ l, p.sector = n ∧ p.data = b := by
  unfold disk.lastOf at h
  cases hf : l.reverse.find? (fun p => p.sector = n) with
  | none => rw [hf] at h; cases h
  | some p =>
    rw [hf] at h
    refine ⟨p, List.mem_reverse.1 (List.mem_of_find?_eq_some hf), by simpa using List.find?_some hf, by simpa using h⟩
theorem lastOf_of {l : List disk.Put} (hd : l.Pairwise (fun p q => p.sector ≠ q.sector)) {p : disk.Put} (hp : p ∈ l) : disk.lastOf l p.sector = some p.data := by
  cases h : disk.lastOf l p.sector with
  | none =>
    unfold disk.lastOf at h
    rw [Option.map_eq_none_iff, List.find?_eq_none] at h
    exact (h p (List.mem_reverse.2 hp) (decide_eq_true rfl)).elim
  | some b =>
    obtain ⟨q, hq, h1, h2⟩ := lastOf_some h
    have e : p = q := by
      obtain ⟨i, hi, rfl⟩ := List.getElem_of_mem hp
      obtain ⟨j, hj, rfl⟩ := List.getElem_of_mem hq
      rcases Nat.lt_trichotomy i j with h3 | h3 | h3
      · exact absurd h1.symm (List.pairwise_iff_getElem.1 hd i j hi hj h3)
      · subst h3; rfl
      · exact absurd h1 (List.pairwise_iff_getElem.1 hd j i hj hi h3)
    rw [e, h2]
def flushS (S : List disk.Put) : List disk.Act := if S = [] then [] else [flushA]
def actsSD (S D : List disk.Put) : List disk.Act := putA S ++ flushS S ++ putA D ++ [flushA]
end files
end Go.Proofs.YthliepcjfnjnoaaGreatDoor
namespace Go.Proofs.YthliepcjfnjnoaaGreatDoor
open Go
namespace files
open room
theorem sect_mem {l : List Piece} (h : ∀ p ∈ l, 0 ≤ p.ct) {n : Int} : n ∈ sectF l ↔ ∃ p ∈ l, p.fr ≤ n ∧ n < p.fr + p.ct := by
  unfold sectF
  rw [List.mem_flatMap]
  constructor
  · rintro ⟨p, hp, hn⟩
    unfold oneF at hn
    obtain ⟨k, hk, rfl⟩ := List.mem_map.1 hn
    rw [List.mem_range] at hk
    have := h p hp
    exact ⟨p, hp, by omega, by omega⟩
  · rintro ⟨p, hp, h1, h2⟩
    refine ⟨p, hp, ?_⟩
    unfold oneF
    exact List.mem_map.2 ⟨(n - p.fr).toNat, List.mem_range.2 (by omega), by omega⟩
theorem sect_cons (p : Piece) (l : List Piece) : sectF (p :: l) = oneF p p.ct.toNat ++ sectF l := by simp [sectF]
theorem sect_append (a b : List Piece) : sectF (a ++ b) = sectF a ++ sectF b := by simp [sectF]
theorem sect_nodup : ∀ {l : List Piece}, (∀ p ∈ l, 0 ≤ p.ct) → l.Pairwise apart → (sectF l).Pairwise (fun a b => a ≠ b)
  | [], _, _ => .nil
  | p :: l, h, ha => by
    obtain ⟨h1, h2⟩ := List.pairwise_cons.1 ha
    rw [sect_cons]
    refine List.pairwise_append.2 ⟨?_, sect_nodup (fun q hq => h q (by simp [hq])) h2, fun a ha b hb e => ?_⟩
    · unfold oneF
      rw [List.pairwise_map]
      exact List.pairwise_lt_range.imp (fun {a b} h => by omega)
    · subst e
      unfold oneF at ha
      obtain ⟨k, hk, rfl⟩ := List.mem_map.1 ha
      rw [List.mem_range] at hk
      obtain ⟨q, hq, h3, h4⟩ := (sect_mem (fun q hq => h q (by simp [hq]))).1 hb
      have := h1 q hq
      unfold apart at this
      omega
theorem sect_total : ∀ {l : List Piece}, (∀ p ∈ l, 0 ≤ p.ct) → ((sectF l).length : Int) = totalF l
  | [], _ => rfl
  | p :: l, h => by
    have h0 := h p (by simp)
    have ih := sect_total (l := l) (fun q hq => h q (by simp [hq]))
    rw [sect_cons, List.length_append, one_length, totalF]
    omega
theorem may_mono {N M : Nat} {l : List Piece} (h : N ≤ M) (hm : mayP (N : Int) l) : mayP (M : Int) l :=
  ⟨fun p hp => by have := hm.1 p hp; unfold okP at this ⊢; omega, hm.2⟩
theorem may_check {N : Nat} {l : List Piece} (h : N ≤ 4096) (hm : mayP (N : Int) l) : checkR (N : Int) l = 0 ∧ checkR 4096 l = 0 := by
  have h1 := (may_length hm).1
  exact ⟨check_0 (by omega) (by omega) hm, check_0 (by omega) (by omega) (may_mono (M := 4096) h hm)⟩
theorem may_sub {N : Int} {l m : List Piece} (h : List.Sublist l m) (hm : mayP N m) : mayP N l := ⟨fun p hp => hm.1 p (h.subset hp), hm.2.sublist h⟩
theorem may_perm {N : Int} {l m : List Piece} (h : l.Perm m) (hm : mayP N m) : mayP N l := ⟨fun p hp => hm.1 p (h.mem_iff.1 hp), (h.pairwise_iff (R := apart) (fun h => apart_symm h)).2 hm.2⟩
theorem may_pos {N : Int} {l : List Piece} (hm : mayP N l) : ∀ p ∈ l, 0 ≤ p.ct := fun p hp => by have := hm.1 p hp; unfold okP at this; omega
abbrev New1 := Change × List Piece
def fileOf (x : New1) : File := ⟨x.1.key, x.1.value.length, x.2⟩
def putsN (N : List New1) : List disk.Put := N.flatMap (fun x => putsV x.2 x.1.value)
theorem range_getD (l : List Int) : (List.range l.length).map (fun i => l.getD i 0) = l := by
  refine List.ext_getElem (by simp) (fun i h1 h2 => ?_)
  rw [List.getElem_map, List.getElem_range, List.getD_eq_getElem?_getD, List.getElem?_eq_getElem h2]
  rfl
theorem putsV_sector (p : List Piece) (v : Bs) : (putsV p v).map (·.sector) = sectE p := by
  unfold putsV
  rw [List.map_map]
  exact range_getD _
theorem secV_length (v : Bs) (i : Nat) : (secV v i).length = 128 := by
  unfold secV
  simp only [List.length_append, List.length_replicate, List.length_take, List.length_drop]
  omega
theorem putsN_sector {N : List New1} (h : ∀ x ∈ N, checkR 4096 x.2 = 0) : (putsN N).map (·.sector) = sectF (N.flatMap (·.2)) := by
  induction N with
  | nil => rfl
  | cons x N ih =>
    rw [putsN, List.flatMap_cons, List.map_append, putsV_sector, List.flatMap_cons, sect_append]
    have e : sectE x.2 = sectF x.2 := by unfold sectE; rw [if_pos (h x (by simp))]
    rw [e]
    congr 1
    exact ih (fun y hy => h y (by simp [hy]))
theorem putsN_ok {n : Nat} {used : List Piece} {N : List New1} (hm : mayP (n : Int) (used ++ N.flatMap (·.2))) (h : ∀ x ∈ N, (∀ q ∈ x.2, 80 ≤ q.fr) ∧ totalF x.2 = needF x.1.value.length ∧ checkR 4096 x.2 = 0) :
    (∀ p ∈ putsN N, 80 ≤ p.sector ∧ p.sector < (n : Int) ∧ p.data.length = 128 ∧ p.sector ∉ sectF used) ∧ (putsN N).Pairwise (fun p q => p.sector ≠ q.sector) ∧ (putsN N).length ≤ n := by
  have hs := putsN_sector (fun x hx => (h x hx).2.2)
  have hm2 := may_sub (List.sublist_append_right used _) hm
  have hn : (putsN N).Pairwise (fun p q => p.sector ≠ q.sector) := by
    rw [← List.pairwise_map (f := disk.Put.sector) (R := fun a b => a ≠ b), hs]
    exact sect_nodup (may_pos hm2) hm2.2
  refine ⟨fun p hp => ?_, hn, ?_⟩
  · have hmem : p.sector ∈ sectF (N.flatMap (·.2)) := by rw [← hs]; exact List.mem_map.2 ⟨p, hp, rfl⟩
    obtain ⟨q, hq, h1, h2⟩ := (sect_mem (may_pos hm2)).1 hmem
    have hok := hm2.1 q hq
    unfold okP at hok
    obtain ⟨x, hx, hqx⟩ := List.mem_flatMap.1 hq
    have h80 := (h x hx).1 q hqx
    refine ⟨by omega, by omega, ?_, fun hu => ?_⟩
    · obtain ⟨y, hy, hpy⟩ := List.mem_flatMap.1 hp
      unfold putsV at hpy
      obtain ⟨i, _, rfl⟩ := List.mem_map.1 hpy
      exact secV_length _ _
    · obtain ⟨r, hr, h3, h4⟩ := (sect_mem (may_pos (may_sub (List.sublist_append_left used _) hm))).1 hu
      have := (List.pairwise_append.1 hm.2).2.2 r hr q hq
      unfold apart at this
      omega
  · have e : (putsN N).length = (sectF (N.flatMap (·.2))).length := by rw [← hs, List.length_map]
    have h1 := sect_total (may_pos hm2)
    have h2 := (may_length hm2).2
    omega
theorem secs_take (v : Bs) : ∀ n, ((List.range n).flatMap (secV v)).take v.length = v.take (n * 128)
  | 0 => by simp
  | n + 1 => by
    have ih := secs_take v n
    have hl : ((List.range n).flatMap (secV v)).length = n * 128 := flat_length n (fun i _ => secV_length v i)
    rw [List.range_succ, List.flatMap_append, List.flatMap_cons, List.flatMap_nil, List.append_nil, Nat.succ_mul]
    by_cases h : v.length ≤ n * 128
    · rw [List.take_append_of_le_length (by omega), ih, List.take_of_length_le h, List.take_of_length_le (by omega)]
    · rw [List.take_append, ih, hl, List.take_add]
      congr 1
      unfold secV
      by_cases h2 : 128 ≤ v.length - n * 128
      · have e : ((v.drop (n * 128)).take 128).length = 128 := by rw [List.length_take, List.length_drop]; omega
        rw [e, Nat.sub_self, List.replicate_zero, List.append_nil, List.take_of_length_le (by omega)]
      · have e : ((v.drop (n * 128)).take 128).length = v.length - n * 128 := by rw [List.length_take, List.length_drop]; omega
        rw [List.take_append_of_le_length (by omega), List.take_of_length_le (by omega)]
theorem bytes_new {y : Disk} {x : New1} (ht : totalF x.2 = needF x.1.value.length) (hc : checkR 4096 x.2 = 0) (h : ∀ p ∈ putsV x.2 x.1.value, disk.readF y p.sector = p.data) : bytesF y (fileOf x) = x.1.value := by
  unfold bytesF fileOf
  simp only
  have hk : ((sectE x.2).length : Int) = needF x.1.value.length := by
    unfold sectE
    rw [if_pos hc, ← ht]
    exact sect_total (fun p hp => by have := (check_ok hc).2.2.2.1 p hp; unfold okP at this; omega)
  have e : (sectE x.2).flatMap (fun n => disk.readF y n) = (List.range (sectE x.2).length).flatMap (secV x.1.value) := by
    conv => lhs; rw [← range_getD (sectE x.2)]
    rw [List.flatMap_map]
    exact flat_congr _ (fun i hi => h ⟨(sectE x.2).getD i 0, secV x.1.value i⟩ (by unfold putsV; exact List.mem_map.2 ⟨i, List.mem_range.2 hi, rfl⟩))
  rw [e, Int.toNat_natCast, secs_take, List.take_of_length_le]
  unfold needF at hk
  omega
theorem bytes_old {d y : Disk} {f : File} (h : ∀ n ∈ sectE f.ps, disk.readF y n = disk.readF d n) : bytesF y f = bytesF d f := by
  unfold bytesF
  congr 1
  rw [List.flatMap_def, List.flatMap_def]
  congr 1
  exact List.map_congr_left h
theorem fread_length {d : Disk} (h : disk.checkF d = 0) {n : Int} (h0 : 0 ≤ n) (hn : n < d.count) : (disk.readF d n).length = 128 := by
  obtain ⟨k1, k2, k3, k4, k5⟩ := disk.check_ok h
  unfold disk.readF
  cases hl : disk.lastOf d.waits n with
  | some b =>
    obtain ⟨p, hp, h1, h2⟩ := lastOf_some hl
    rw [← h2]
    exact (k5 p hp).2.2
  | none =>
    show ((d.data.drop _).take 128).length = 128
    rw [List.length_take, List.length_drop]
    omega
end files
end Go.Proofs.YthliepcjfnjnoaaGreatDoor
namespace Go.Proofs.YthliepcjfnjnoaaGreatDoor
open Go
namespace files
open room
theorem slot_same {d y : Disk} {n : Nat} (h : ∀ i, i < 8 → disk.readF y ((n + i : Nat) : Int) = disk.readF d ((n + i : Nat) : Int)) : slotB y n = slotB d n := flat_congr 8 h
theorem slot_new {y : Disk} {b : Bs} {n : Nat} (hb : b.length = 1024) (h : ∀ i, i < 8 → disk.readF y ((n + i : Nat) : Int) = (b.drop (i * 128)).take 128) : slotB y n = b := by
  unfold slotB
  rw [flat_congr 8 h, take_blocks, List.take_of_length_le (by omega)]
theorem slot_sec {y : Disk} (hc : disk.checkF y = 0) {n : Nat} (hn : ((n + 8 : Nat) : Int) ≤ y.count) {i : Nat} (hi : i < 8) : ((slotB y n).drop (i * 128)).take 128 = disk.readF y ((n + i : Nat) : Int) :=
  flat_block (f := fun i => disk.readF y ((n + i : Nat) : Int)) 8 (fun j hj => fread_length hc (by omega) (by omega)) i hi
theorem slot_ok_same {d y : Disk} {n : Nat} (hct : y.count = d.count) (h : slotB y n = slotB d n) : slotF y n = slotF d n ∧ (slotOK y n ↔ slotOK d n) := by
  have e : slotF y n = slotF d n := by unfold slotF; rw [h]
  refine ⟨e, ?_⟩
  unfold slotOK
  rw [e, h, hct]
theorem mount_new {d y : Disk} {x : Dir} {b : Bs} (hd : (mountF d).2.2 = 0) (hy : disk.checkF y = 0) (hct : y.count = d.count) (hat : ∀ i, i < 8 → disk.readF y (((mountF d).2.1 + i : Nat) : Int) = disk.readF d (((mountF d).2.1 + i : Nat) : Int))
    (hnew : ∀ i, i < 8 → disk.readF y ((8 - (mountF d).2.1 + i : Nat) : Int) = (b.drop (i * 128)).take 128) (hw : writeF x = (b, 0)) (hck : checkR d.count (allP x.fs) = 0) (hg : (mountF d).1.gen < x.gen) : mountF y = (x, 8 - (mountF d).2.1, 0) := by
  obtain ⟨h1, h2, h3, h4, h5⟩ := mountF_ok hd
  obtain ⟨e, o⟩ := slot_ok_same hct (slot_same hat)
  have hsb := slot_new (writeF_len hw) hnew
  have hr := read_write hw
  have en : slotF y (8 - (mountF d).2.1) = x := by unfold slotF; rw [hsb, hr]
  have on : slotOK y (8 - (mountF d).2.1) := by unfold slotOK; rw [en, hsb, hr, hct]; exact ⟨rfl, hck⟩
  rw [h5] at hg
  rcases h3 with h3 | h3
  · rw [h3] at e o h4 en on hg ⊢
    rw [mountF_8 hy (by omega) (fun h => h.2 ⟨on, by rw [e, en]; exact hg⟩) on, en]
  · rw [h3] at e o h4 en on hg ⊢
    rw [mountF_0 hy (by omega) on (fun h => by rw [en, e] at h; omega), en]
theorem genTo_le (d : Disk) (o : Nat) (g : Int) : ∀ k, g ≤ genTo d o g k
  | 0 => Int.le_refl _
  | k + 1 => by
    have := genTo_le d o g k
    rw [genTo]
    split <;> omega
theorem write_gen {x : Dir} {b : Bs} (h : writeF x = (b, 0)) {i : Nat} (hi : i < 8) : (getTo (((b.drop (i * 128)).take 128).take 8) 8 : Int) = x.gen := by
  obtain ⟨hc, hb, rfl⟩ := writeF_ok h
  obtain ⟨_, hm⟩ := checkD_ok hc
  have hg := hm.1
  have hl : (bodyD x.fs ++ List.replicate (952 - (bodyD x.fs).length) (0 : UInt8)).length = 952 := by rw [List.length_append, List.length_replicate]; omega
  rw [slotsD_sec hl hi]
  unfold secD
  rw [List.append_assoc, List.take_left' (put8_length _)]
  have := getTo_put8 (n := x.gen.toNat) [] (by omega)
  rw [List.append_nil] at this
  rw [this]
  omega
theorem filter_flat {α β : Type} (p : α → Bool) (f : α → List β) : ∀ l : List α, List.Sublist ((l.filter p).flatMap f) (l.flatMap f)
  | [] => .slnil
  | a :: l => by
    rw [List.filter_cons]
    split
    · rw [List.flatMap_cons, List.flatMap_cons]
      exact List.Sublist.append (List.Sublist.refl _) (filter_flat p f l)
    · rw [List.flatMap_cons]
      exact (filter_flat p f l).trans (List.sublist_append_right _ _)
theorem flatMap_fileOf (N : List New1) : allP (N.map fileOf) = N.flatMap (·.2) := by
  unfold allP
  rw [List.flatMap_map]
  rfl
structure Turned (d : Disk) (l : List Change) (N : List New1) (b : Bs) : Prop where
  mt : (mountF d).2.2 = 0
  wr : wrongF (mountF d).1 l = 0
  fr : N.map (·.1) = freshN l
  may : mayP (d.count.toNat : Int) (allP (mountF d).1.fs ++ N.flatMap (·.2))
  each : ∀ x ∈ N, (∀ q ∈ x.2, 80 ≤ q.fr) ∧ totalF x.2 = needF x.1.value.length ∧ checkR 4096 x.2 = 0
  wrt : writeF (turnD d (mountF d).1 (mountF d).2.1 (keepN (mountF d).1 l ++ N.map fileOf)) = (b, 0)
  acts : (turnF d l).1 = actsSD (putsN N) (dirP b (8 - (mountF d).2.1))
section
variable {d : Disk} {l : List Change} {N : List New1} {b : Bs}
theorem Turned.count (h : Turned d l N b) : ((d.count.toNat : Nat) : Int) = d.count := by have := (mount_may h.mt).2.1; exact Int.toNat_of_nonneg (by omega)
theorem Turned.at_ (h : Turned d l N b) : (mountF d).2.1 = 0 ∨ (mountF d).2.1 = 8 := (mountF_ok h.mt).2.2.1
theorem Turned.ck (h : Turned d l N b) : checkR d.count (allP (turnD d (mountF d).1 (mountF d).2.1 (keepN (mountF d).1 l ++ N.map fileOf)).fs) = 0 := by
  have hc := (check_ok (mount_may h.mt).2.2.2.2.1).2.1
  have hct := h.count
  rw [← hct]
  refine (may_check (by omega) ?_).1
  have e : (turnD d (mountF d).1 (mountF d).2.1 (keepN (mountF d).1 l ++ N.map fileOf)).fs = sortN (keepN (mountF d).1 l ++ N.map fileOf) := rfl
  rw [e]
  refine may_perm (m := allP (keepN (mountF d).1 l ++ N.map fileOf)) (sortN_perm.flatMap_right _) ?_
  have e2 : allP (keepN (mountF d).1 l ++ N.map fileOf) = allP (keepN (mountF d).1 l) ++ N.flatMap (·.2) := by rw [← flatMap_fileOf]; simp [allP]
  rw [e2]
  exact may_sub (List.Sublist.append (filter_flat _ _ _) (List.Sublist.refl _)) h.may
theorem Turned.gen (h : Turned d l N b) : (mountF d).1.gen < (turnD d (mountF d).1 (mountF d).2.1 (keepN (mountF d).1 l ++ N.map fileOf)).gen := by
  show _ < genTo d (8 - (mountF d).2.1) (mountF d).1.gen 8 + 1
  have := genTo_le d (8 - (mountF d).2.1) (mountF d).1.gen 8
  omega
theorem Turned.okS (h : Turned d l N b) : (∀ p ∈ putsN N, 80 ≤ p.sector ∧ p.sector < d.count ∧ p.data.length = 128 ∧ p.sector ∉ sectF (allP (mountF d).1.fs)) ∧ (putsN N).Pairwise (fun p q => p.sector ≠ q.sector) ∧ ((putsN N).length : Int) ≤ d.count := by
  obtain ⟨h1, h2, h3⟩ := putsN_ok h.may h.each
  rw [h.count] at h1
  have := h.count
  exact ⟨h1, h2, by omega⟩
def Holds (y : Disk) (v : List NV) : Prop := (mountF y).2.2 = 0 ∧ viewF y = v
theorem sectE_sub {f : File} (hf : f ∈ (mountF d).1.fs) {n : Int} (hn : n ∈ sectE f.ps) : n ∈ sectF (allP (mountF d).1.fs) := by
  unfold sectE at hn
  split at hn
  · unfold sectF at hn ⊢
    obtain ⟨p, hp, h⟩ := List.mem_flatMap.1 hn
    exact List.mem_flatMap.2 ⟨p, List.mem_flatMap.2 ⟨f, hf, hp⟩, h⟩
  · cases hn
theorem Turned.sect (h : Turned d l N b) {n : Int} (hn : n ∈ sectF (allP (mountF d).1.fs)) : 80 ≤ n ∧ n < d.count ∧ ∀ p ∈ putsN N, ¬ p.sector = n := by
  obtain ⟨_, _, _, hm, hck, _⟩ := mount_may h.mt
  have hmp := (check_ok hck).2.2.2
  obtain ⟨q, hq, h1, h2⟩ := (sect_mem (may_pos hmp)).1 hn
  have h3 := hmp.1 q hq
  have h4 := hm.2.2.1 q hq
  unfold okP at h3
  exact ⟨by omega, by omega, fun p hp e => (h.okS.1 p hp).2.2.2 (by rw [e]; exact hn)⟩
theorem Turned.before (h : Turned d l N b) {y : Disk} (hy : disk.checkF y = 0) (hct : y.count = d.count) (hm : mountF y = mountF d) (hs : ∀ n, 80 ≤ n → n < d.count → (∀ p ∈ putsN N, ¬ p.sector = n) → disk.readF y n = disk.readF d n) : Holds y (viewF d) := by
  refine ⟨by rw [hm]; exact h.mt, ?_⟩
  unfold viewF
  rw [hm]
  refine List.map_congr_left (fun f hf => ?_)
  rw [bytes_old (fun n hn => ?_)]
  obtain ⟨h1, h2, h3⟩ := h.sect (sectE_sub hf hn)
  exact hs n h1 h2 h3
theorem Turned.behind (h : Turned d l N b) {y : Disk} (hy : disk.checkF y = 0) (hct : y.count = d.count) (hr : ∀ n, 0 ≤ n → n < d.count → (n < ((8 - (mountF d).2.1 : Nat) : Int) ∨ ((8 - (mountF d).2.1 + 8 : Nat) : Int) ≤ n) → disk.readF y n = match disk.lastOf (putsN N) n with | some x => x | none => disk.readF d n)
    (hn : ∀ i, i < 8 → disk.readF y ((8 - (mountF d).2.1 + i : Nat) : Int) = (b.drop (i * 128)).take 128) : mountF y = (turnD d (mountF d).1 (mountF d).2.1 (keepN (mountF d).1 l ++ N.map fileOf), 8 - (mountF d).2.1, 0) ∧ Holds y (map2F d l) := by
  have h2 := (mount_may h.mt).2.1
  have h3 := h.at_
  have hmt : mountF y = (turnD d (mountF d).1 (mountF d).2.1 (keepN (mountF d).1 l ++ N.map fileOf), 8 - (mountF d).2.1, 0) := by
    refine mount_new h.mt hy hct (fun i hi => ?_) hn h.wrt h.ck h.gen
    rw [hr _ (by omega) (by omega) (by omega), lastOf_none (fun p hp e => by have := (h.okS.1 p hp).1; omega)]
  refine ⟨hmt, by rw [hmt], ?_⟩
  refine view_turned h.mt h.wr (news := N.map fileOf) (by rw [hmt]; rfl) ?_ (fun f hf => bytes_old (fun n hn => ?_)) (by rw [hmt])
  · rw [← h.fr, List.map_map, List.map_map]
    refine List.map_congr_left (fun x hx => ?_)
    show ((fileOf x).name, bytesF y (fileOf x)) = (x.1.key, x.1.value)
    rw [bytes_new (h.each x hx).2.1 (h.each x hx).2.2 (fun p hp => ?_)]
    · rfl
    · have hp2 : p ∈ putsN N := List.mem_flatMap.2 ⟨x, hx, hp⟩
      have h4 := h.okS.1 p hp2
      rw [hr _ (by omega) (by omega) (by omega), lastOf_of h.okS.2.1 hp2]
  · obtain ⟨h5, h6, h7⟩ := h.sect (sectE_sub (List.mem_filter.1 hf).1 hn)
    rw [hr _ (by omega) (by omega) (by omega), lastOf_none h7]
end
end files
end Go.Proofs.YthliepcjfnjnoaaGreatDoor
