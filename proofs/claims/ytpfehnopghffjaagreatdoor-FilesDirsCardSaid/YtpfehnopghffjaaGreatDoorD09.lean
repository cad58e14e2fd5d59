import Derived.Test.YtpfehnopghffjaaGreatDoorD08
import Derived.Test.YtpfehnopghffjaaGreatDoorD03
import Derived.Test.YtpfehnopghffjaaGreatDoorD05
import Derived.Laws.StructEq
import Derived.Test.YtpfehnopghffjaaGreatDoorD06
import Derived.Test.YtpfehnopghffjaaGreatDoorD07
import Derived.Shelf.GgSortFunc.InsertionK
import Derived.Shelf.SlSortCmp.WholeK
import Derived.Shelf.SlSortCmp.NoneTotal
import Derived.Lib.Bytealg
import Derived.Test.YtpfehnopghffjaaGreatDoorProg
import Derived.Test.YtpfehnopghffjaaGreatDoorD04
set_option linter.unusedVariables false
set_option linter.unusedSimpArgs false
set_option maxRecDepth 20000
namespace Go.Proofs.YtpfehnopghffjaaGreatDoor
open Go
namespace files
open room
theorem bl_cons (a b : UInt8) (x y : Bs) : Op.bytesLess (a :: x) (b :: y) = true ↔ a < b ∨ (a = b ∧ Op.bytesLess x y = true) := by simp [Op.bytesLess]
theorem bl_irr : ∀ a : Bs, ¬ Op.bytesLess a a = true
  | [] => by simp [Op.bytesLess]
  | a :: x => by
    rw [bl_cons]
    rintro (h | ⟨_, h⟩)
    · exact UInt8.lt_irrefl a h
    · exact bl_irr x h
theorem bl_trans : ∀ {a b c : Bs}, Op.bytesLess a b = true → Op.bytesLess b c = true → Op.bytesLess a c = true
  | [], [], _, h, _ => by simp [Op.bytesLess] at h
  | _ :: _, [], _, h, _ => by simp [Op.bytesLess] at h
  | [], _ :: _, [], _, h => by simp [Op.bytesLess] at h
  | [], _ :: _, _ :: _, _, _ => by simp [Op.bytesLess]
  | _ :: _, _ :: _, [], _, h => by simp [Op.bytesLess] at h
  | a :: x, b :: y, c :: z, h, k => by
    rw [bl_cons] at h k ⊢
    rcases h with h | ⟨rfl, h⟩
    · rcases k with k | ⟨rfl, k⟩
      · exact .inl (UInt8.lt_trans h k)
      · exact .inl h
    · rcases k with k | ⟨rfl, k⟩
      · exact .inl k
      · exact .inr ⟨rfl, bl_trans h k⟩
theorem bl_tri : ∀ a b : Bs, Op.bytesLess a b = true ∨ a = b ∨ Op.bytesLess b a = true
  | [], [] => .inr (.inl rfl)
  | [], _ :: _ => .inl (by simp [Op.bytesLess])
  | _ :: _, [] => .inr (.inr (by simp [Op.bytesLess]))
  | a :: x, b :: y => by
    rw [bl_cons, bl_cons]
    by_cases h1 : a < b
    · exact .inl (.inl h1)
    · by_cases h2 : b < a
      · exact .inr (.inr (.inl h2))
      · have e : a = b := UInt8.le_antisymm (UInt8.not_lt.1 h2) (UInt8.not_lt.1 h1)
        subst e
        rcases bl_tri x y with h | h | h
        · exact .inl (.inr ⟨rfl, h⟩)
        · exact .inr (.inl (by rw [h]))
        · exact .inr (.inr (.inr ⟨rfl, h⟩))
theorem sorted_ext {α : Type} {lt : α → α → Prop} (irr : ∀ a, ¬ lt a a) (tr : ∀ {a b c}, lt a b → lt b c → lt a c) : ∀ {l m : List α}, l.Pairwise lt → m.Pairwise lt → (∀ a, a ∈ l ↔ a ∈ m) → l = m
  | [], [], _, _, _ => rfl
  | [], b :: m, _, _, h => absurd ((h b).2 (by simp)) (by simp)
  | a :: l, [], _, _, h => absurd ((h a).1 (by simp)) (by simp)
  | a :: l, b :: m, hl, hm, h => by
    obtain ⟨hl1, hl2⟩ := List.pairwise_cons.1 hl
    obtain ⟨hm1, hm2⟩ := List.pairwise_cons.1 hm
    have e : a = b := by
      rcases List.mem_cons.1 ((h a).1 (by simp)) with e | h1
      · exact e
      · rcases List.mem_cons.1 ((h b).2 (by simp)) with e | h2
        · exact e.symm
        · exact absurd (tr (hm1 a h1) (hl1 b h2)) (irr b)
    subst e
    congr 1
    refine sorted_ext irr tr hl2 hm2 (fun x => ⟨fun hx => ?_, fun hx => ?_⟩)
    · rcases List.mem_cons.1 ((h x).1 (by simp [hx])) with e | h1
      · subst e; exact absurd (hl1 _ hx) (irr _)
      · exact h1
    · rcases List.mem_cons.1 ((h x).2 (by simp [hx])) with e | h1
      · subst e; exact absurd (hm1 _ hx) (irr _)
      · exact h1
def ltN (f g : File) : Prop := Op.bytesLess f.name g.name = true
def UpN (l : List File) : Prop := l.Pairwise ltN
theorem ltN_ne {a b : File} (h : ltN a b) : a.name ≠ b.name := fun e => by
  unfold ltN at h
  rw [e] at h
  exact bl_irr _ h
theorem insF_mem {f g : File} : ∀ {l : List File}, g ∈ insF l f ↔ g = f ∨ g ∈ l
  | [] => by simp [insF]
  | x :: l => by
    rw [insF]
    split
    · simp
    · rw [List.mem_cons, insF_mem (l := l), List.mem_cons]
      constructor
      · rintro (h | h | h)
        · exact .inr (.inl h)
        · exact .inl h
        · exact .inr (.inr h)
      · rintro (h | h | h)
        · exact .inr (.inl h)
        · exact .inl h
        · exact .inr (.inr h)
theorem insF_up {f : File} : ∀ {l : List File}, UpN l → (∀ g ∈ l, g.name ≠ f.name) → UpN (insF l f)
  | [], _, _ => List.pairwise_singleton _ _
  | x :: l, h, hn => by
    obtain ⟨h1, h2⟩ := List.pairwise_cons.1 h
    rw [insF]
    split
    · rename_i hlt
      refine List.pairwise_cons.2 ⟨fun g hg => ?_, h⟩
      rcases List.mem_cons.1 hg with rfl | hg
      · exact hlt
      · exact bl_trans hlt (h1 g hg)
    · rename_i hlt
      refine List.pairwise_cons.2 ⟨fun g hg => ?_, insF_up h2 (fun g hg => hn g (by simp [hg]))⟩
      rcases insF_mem.1 hg with rfl | hg
      · rcases bl_tri x.name g.name with h3 | h3 | h3
        · exact h3
        · exact absurd h3 (hn x (by simp))
        · exact absurd h3 hlt
      · exact h1 g hg
theorem foldl_ins : ∀ {l k : List File}, UpN k → (k ++ l).Pairwise (fun f g => f.name ≠ g.name) → UpN (l.foldl insF k) ∧ ∀ g, g ∈ l.foldl insF k ↔ g ∈ k ∨ g ∈ l
  | [], k, hk, _ => ⟨hk, fun g => by simp⟩
  | f :: l, k, hk, hd => by
    obtain ⟨h1, h2, h3⟩ := List.pairwise_append.1 hd
    obtain ⟨h4, h5⟩ := List.pairwise_cons.1 h2
    have hn : ∀ g ∈ k, g.name ≠ f.name := fun g hg => h3 g hg f (by simp)
    have hd2 : (insF k f ++ l).Pairwise (fun f g => f.name ≠ g.name) := by
      refine List.pairwise_append.2 ⟨(insF_up hk hn).imp (fun h => ltN_ne h), h5, fun a ha b hb => ?_⟩
      rcases insF_mem.1 ha with rfl | ha
      · exact h4 b hb
      · exact h3 a ha b (by simp [hb])
    obtain ⟨i1, i2⟩ := foldl_ins (insF_up hk hn) hd2
    refine ⟨i1, fun g => ?_⟩
    rw [List.foldl_cons, i2 g, insF_mem, List.mem_cons]
    constructor
    · rintro ((h | h) | h)
      · exact .inr (.inl h)
      · exact .inl h
      · exact .inr (.inr h)
    · rintro (h | h | h)
      · exact .inl (.inr h)
      · exact .inl (.inl h)
      · exact .inr h
theorem sortN_ok {l : List File} (hd : l.Pairwise (fun f g => f.name ≠ g.name)) : UpN (sortN l) ∧ ∀ g, g ∈ sortN l ↔ g ∈ l := by
  obtain ⟨h1, h2⟩ := foldl_ins (l := l) (k := []) .nil hd
  exact ⟨h1, fun g => by rw [sortN, h2 g]; simp⟩
theorem sortN_perm {l : List File} : (sortN l).Perm l := by
  have hi : ∀ (l : List File) (f : File), (insF l f).Perm (f :: l) := by
    intro l f
    induction l with
    | nil => exact .refl _
    | cons x l ih =>
      rw [insF]
      split
      · exact .refl _
      · exact (List.Perm.cons x ih).trans (List.Perm.swap f x l)
  have hf : ∀ (l k : List File), (l.foldl insF k).Perm (k ++ l) := by
    intro l
    induction l with
    | nil => intro k; rw [List.append_nil]; exact .refl _
    | cons f l ih =>
      intro k
      refine (ih (insF k f)).trans ?_
      refine ((hi k f).append_right l).trans ?_
      exact List.perm_middle.symm
  exact hf l []
theorem up_of {l : List File} (h : ∀ i (h : i < l.length), okAt l i h) : UpN l := by
  have key : ∀ n, n ≤ l.length → UpN (l.take n) := by
    intro n
    induction n with
    | zero => intro _; exact .nil
    | succ n ih =>
      intro hn
      have hi : n < l.length := by omega
      have ihn := ih (by omega)
      rw [List.take_succ_eq_append_getElem hi]
      refine List.pairwise_append.2 ⟨ihn, List.pairwise_singleton _ _, fun a ha b hb => ?_⟩
      rw [List.mem_singleton] at hb
      subst hb
      obtain ⟨j, hj, rfl⟩ := List.getElem_of_mem ha
      rw [List.length_take] at hj
      rw [List.getElem_take]
      have h0 : 0 < n := by omega
      have hlast := (h n hi).2.1 h0
      by_cases hjn : j = n - 1
      · subst hjn; exact hlast
      · have h2 := List.pairwise_iff_getElem.1 ihn j (n - 1) (by rw [List.length_take]; omega) (by rw [List.length_take]; omega) (by omega)
        rw [List.getElem_take, List.getElem_take] at h2
        exact bl_trans h2 hlast
  have := key l.length (Nat.le_refl _)
  rwa [List.take_length] at this
theorem up_ne {l : List File} (h : UpN l) : l.Pairwise (fun f g => f.name ≠ g.name) := h.imp (fun h => ltN_ne h)
theorem slot_may {d : Disk} {n : Nat} (h : slotOK d n) : writeF (slotF d n) = (slotB d n, 0) ∧ (slotF d n).fs.length ≤ 32 ∧ mayD (slotF d n) ∧ checkR d.count (allP (slotF d n).fs) = 0 := by
  have hw := write_read h.1
  obtain ⟨h1, h2⟩ := checkD_ok (writeF_ok hw).1
  exact ⟨hw, h1, h2, h.2⟩
theorem mount_may {d : Disk} (h : (mountF d).2.2 = 0) : disk.checkF d = 0 ∧ 96 ≤ d.count ∧ (mountF d).1.fs.length ≤ 32 ∧ mayD (mountF d).1 ∧ checkR d.count (allP (mountF d).1.fs) = 0 ∧ UpN (mountF d).1.fs := by
  obtain ⟨h1, h2, _, h3, h4⟩ := mountF_ok h
  obtain ⟨_, h5, h6, h7⟩ := slot_may h3
  rw [h4]
  exact ⟨h1, h2, h5, h6, h7, up_of h6.2.2.2⟩
theorem chgW_0 {x : Dir} : ∀ {l : List Change} {seen : List Bs}, chgW x seen l = 0 → (∀ c ∈ l, nameF c.key = true ∧ c.key ∉ seen ∧ (c.gone = true → ¬ findF x c.key < 0)) ∧ l.Pairwise (fun a b => a.key ≠ b.key)
  | [], _, _ => ⟨fun _ h => (by cases h), .nil⟩
  | c :: l, seen, h => by
    rw [chgW] at h
    split at h
    · rename_i h1; exact absurd h h1
    · rename_i h1
      have h1 := Decidable.not_not.1 h1
      obtain ⟨i1, i2⟩ := chgW_0 h
      have hc : nameF c.key = true ∧ c.key ∉ seen ∧ (c.gone = true → ¬ findF x c.key < 0) := by
        unfold oneW at h1
        split at h1
        · cases h1
        · rename_i h2
          split at h1
          · cases h1
          · rename_i h3
            split at h1
            · cases h1
            · rename_i h4
              exact ⟨Decidable.not_not.1 h2, h3, fun hg hf => h4 ⟨hg, hf⟩⟩
      refine ⟨fun d hd => ?_, List.pairwise_cons.2 ⟨fun d hd e => (i1 d hd).2.1 (by rw [← e]; simp), i2⟩⟩
      rcases List.mem_cons.1 hd with rfl | hd
      · exact hc
      · exact ⟨(i1 d hd).1, fun hs => (i1 d hd).2.1 (by simp [hs]), (i1 d hd).2.2⟩
theorem wrongF_0 {x : Dir} {l : List Change} (h : wrongF x l = 0) : l.length ≤ 64 ∧ (∀ c ∈ l, nameF c.key = true ∧ (c.gone = true → ¬ findF x c.key < 0)) ∧ l.Pairwise (fun a b => a.key ≠ b.key) := by
  unfold wrongF at h
  split at h
  · cases h
  · obtain ⟨h1, h2⟩ := chgW_0 h
    exact ⟨by omega, fun c hc => ⟨(h1 c hc).1, (h1 c hc).2.2⟩, h2⟩
end files
end Go.Proofs.YtpfehnopghffjaaGreatDoor
namespace Go.Proofs.YtpfehnopghffjaaGreatDoor
open Go
namespace files
open room
abbrev NV := Bs × Bs
def ltV (a b : NV) : Prop := Op.bytesLess a.1 b.1 = true
noncomputable def viewF (d : Disk) : List NV := (mountF d).1.fs.map (fun f => (f.name, bytesF d f))
def stepV (out : List NV) (c : Change) : List NV := out.filter (fun p => Op.bytesLess p.1 c.key) ++ (if c.gone = true then [] else [(c.key, c.value)]) ++ out.filter (fun p => Op.bytesLess c.key p.1)
noncomputable def map2F (d : Disk) (l : List Change) : List NV := l.foldl stepV (viewF d)
theorem stepV_mem {out : List NV} {c : Change} {p : NV} : p ∈ stepV out c ↔ (p ∈ out ∧ p.1 ≠ c.key) ∨ (c.gone = false ∧ p = (c.key, c.value)) := by
  unfold stepV
  simp only [List.mem_append, List.mem_filter]
  constructor
  · rintro ((⟨h1, h2⟩ | h) | ⟨h1, h2⟩)
    · exact .inl ⟨h1, fun e => bl_irr c.key (by rw [e] at h2; exact h2)⟩
    · cases hg : c.gone with
      | true => rw [hg, if_pos rfl] at h; cases h
      | false => rw [hg, if_neg (by exact Bool.false_ne_true)] at h; exact .inr ⟨rfl, by simpa using h⟩
    · exact .inl ⟨h1, fun e => bl_irr c.key (by rw [e] at h2; exact h2)⟩
  · rintro (⟨h1, h2⟩ | ⟨h1, rfl⟩)
    · rcases bl_tri p.1 c.key with h | h | h
      · exact .inl (.inl ⟨h1, h⟩)
      · exact absurd h h2
      · exact .inr ⟨h1, h⟩
    · exact .inl (.inr (by rw [h1, if_neg (by exact Bool.false_ne_true)]; simp))
theorem stepV_up {out : List NV} {c : Change} (h : out.Pairwise ltV) : (stepV out c).Pairwise ltV := by
  unfold stepV
  refine List.pairwise_append.2 ⟨List.pairwise_append.2 ⟨h.sublist (List.filter_sublist), ?_, ?_⟩, h.sublist (List.filter_sublist), ?_⟩
  · split
    · exact .nil
    · exact List.pairwise_singleton _ _
  · intro a ha b hb
    split at hb
    · cases hb
    · rw [List.mem_singleton] at hb
      subst hb
      exact (List.mem_filter.1 ha).2
  · intro a ha b hb
    have hb := (List.mem_filter.1 hb).2
    rcases List.mem_append.1 ha with ha | ha
    · exact bl_trans (List.mem_filter.1 ha).2 hb
    · split at ha
      · cases ha
      · rw [List.mem_singleton] at ha
        subst ha
        exact hb
theorem foldV : ∀ {l : List Change} {out : List NV}, out.Pairwise ltV → l.Pairwise (fun a b => a.key ≠ b.key) → (l.foldl stepV out).Pairwise ltV ∧ ∀ p, p ∈ l.foldl stepV out ↔ (p ∈ out ∧ ∀ c ∈ l, p.1 ≠ c.key) ∨ ∃ c ∈ l, c.gone = false ∧ p = (c.key, c.value)
  | [], out, h, _ => ⟨h, fun p => by simp⟩
  | c :: l, out, h, hd => by
    obtain ⟨h1, h2⟩ := List.pairwise_cons.1 hd
    obtain ⟨i1, i2⟩ := foldV (l := l) (stepV_up (c := c) h) h2
    refine ⟨i1, fun p => ?_⟩
    rw [List.foldl_cons, i2 p, stepV_mem]
    constructor
    · rintro (⟨⟨h3, h4⟩ | ⟨h3, h4⟩, h5⟩ | ⟨b, hb, h3, h4⟩)
      · exact .inl ⟨h3, fun b hb => by rcases List.mem_cons.1 hb with rfl | hb; exact h4; exact h5 b hb⟩
      · exact .inr ⟨c, by simp, h3, h4⟩
      · exact .inr ⟨b, by simp [hb], h3, h4⟩
    · rintro (⟨h3, h4⟩ | ⟨b, hb, h3, h4⟩)
      · exact .inl ⟨.inl ⟨h3, h4 c (by simp)⟩, fun b hb => h4 b (by simp [hb])⟩
      · rcases List.mem_cons.1 hb with rfl | hb
        · exact .inl ⟨.inr ⟨h3, h4⟩, fun a ha => by rw [h4]; exact h1 a ha⟩
        · exact .inr ⟨b, hb, h3, h4⟩
theorem view_up {d : Disk} (h : (mountF d).2.2 = 0) : (viewF d).Pairwise ltV := by
  obtain ⟨_, _, _, _, _, h2⟩ := mount_may h
  unfold viewF
  rw [List.pairwise_map]
  exact h2.imp (fun h => h)
theorem view_turned {d y : Disk} {l : List Change} {news : List File} (hd : (mountF d).2.2 = 0) (hw : wrongF (mountF d).1 l = 0) (hy : (mountF y).1.fs = sortN (keepN (mountF d).1 l ++ news))
    (hn : news.map (fun f => (f.name, bytesF y f)) = (freshN l).map (fun c => (c.key, c.value))) (hk : ∀ f ∈ keepN (mountF d).1 l, bytesF y f = bytesF d f) (hm : (mountF y).2.2 = 0) : viewF y = map2F d l := by
  obtain ⟨_, hw2, hw3⟩ := wrongF_0 hw
  obtain ⟨hu, hmm⟩ := foldV (view_up hd) hw3
  have hdist : (keepN (mountF d).1 l ++ news).Pairwise (fun f g => f.name ≠ g.name) := by
    obtain ⟨_, _, _, _, _, h2⟩ := mount_may hd
    have hnk : news.map (·.name) = (freshN l).map (·.key) := by
      have := congrArg (List.map Prod.fst) hn
      simpa [List.map_map, Function.comp_def] using this
    refine List.pairwise_append.2 ⟨(up_ne h2).sublist List.filter_sublist, ?_, fun a ha b hb => ?_⟩
    · rw [← List.pairwise_map (f := File.name) (R := fun a b => a ≠ b), hnk, List.pairwise_map]
      exact hw3.sublist List.filter_sublist
    · have h3 := (List.mem_filter.1 ha).2
      have hb' : b.name ∈ (freshN l).map (·.key) := by rw [← hnk]; exact List.mem_map.2 ⟨b, hb, rfl⟩
      obtain ⟨c, hc, hcb⟩ := List.mem_map.1 hb'
      intro e
      have : a.name ∈ l.map (·.key) := List.mem_map.2 ⟨c, (List.mem_filter.1 hc).1, by rw [hcb, e]⟩
      rw [decide_eq_true this] at h3
      cases h3
  refine sorted_ext (lt := ltV) (fun a => bl_irr _) (fun h k => bl_trans h k) (view_up hm) hu (fun p => ?_)
  unfold map2F
  rw [hmm p]
  unfold viewF
  rw [hy]
  constructor
  · intro h
    obtain ⟨f, hf, rfl⟩ := List.mem_map.1 h
    rcases List.mem_append.1 (((sortN_ok hdist).2 f).1 hf) with hf | hf
    · refine .inl ⟨List.mem_map.2 ⟨f, (List.mem_filter.1 hf).1, by rw [hk f hf]⟩, fun c hc e => ?_⟩
      have h3 := (List.mem_filter.1 hf).2
      have e : f.name = c.key := e
      have : f.name ∈ l.map (·.key) := List.mem_map.2 ⟨c, hc, e.symm⟩
      rw [decide_eq_true this] at h3
      cases h3
    · have : (f.name, bytesF y f) ∈ news.map (fun f => (f.name, bytesF y f)) := List.mem_map.2 ⟨f, hf, rfl⟩
      rw [hn] at this
      obtain ⟨c, hc, e⟩ := List.mem_map.1 this
      obtain ⟨hc1, hc2⟩ := List.mem_filter.1 hc
      exact .inr ⟨c, hc1, by simpa using hc2, e.symm⟩
  · rintro (⟨h1, h2⟩ | ⟨c, hc, h1, rfl⟩)
    · obtain ⟨f, hf, rfl⟩ := List.mem_map.1 h1
      have hkf : f ∈ keepN (mountF d).1 l := by
        refine List.mem_filter.2 ⟨hf, ?_⟩
        have : f.name ∉ l.map (·.key) := fun hx => by
          obtain ⟨c, hc, e⟩ := List.mem_map.1 hx
          exact h2 c hc e.symm
        rw [decide_eq_false this]; rfl
      exact List.mem_map.2 ⟨f, ((sortN_ok hdist).2 f).2 (List.mem_append_left _ hkf), by rw [hk f hkf]⟩
    · have : (c.key, c.value) ∈ (freshN l).map (fun c => (c.key, c.value)) := List.mem_map.2 ⟨c, List.mem_filter.2 ⟨hc, by rw [h1]; rfl⟩, rfl⟩
      rw [← hn] at this
      obtain ⟨f, hf, e⟩ := List.mem_map.1 this
      exact List.mem_map.2 ⟨f, ((sortN_ok hdist).2 f).2 (List.mem_append_right _ hf), e⟩
end files
end Go.Proofs.YtpfehnopghffjaaGreatDoor
namespace Go.Proofs.YtpfehnopghffjaaGreatDoor
open Go
namespace files
open room
theorem lastOf_none {l : List disk.Put} {n : Int} (h : ∀ p ∈ l, ¬ p.sector = n) : disk.lastOf l n = none := by
  unfold disk.lastOf
  rw [List.find?_eq_none.2 (fun p hp => by simpa using h p (List.mem_reverse.1 hp))]
  rfl
theorem lastOf_some {l : List disk.Put} {n : Int} {b : Bs} (h : disk.lastOf l n = some b) : ∃ p ∈ l, p.sector = n ∧ p.data = b := by
  unfold disk.lastOf at h
  cases hf : l.reverse.find? (fun p => p.sector = n) with
  | none => rw [hf] at h; cases h
  | some p =>
    rw [hf] at h
    refine ⟨p, List.mem_reverse.1 (List.mem_of_find?_eq_some hf), by simpa using List.find?_some hf, by simpa using h⟩
theorem lastOf_of {l : List disk.Put} (hd : l.Pairwise (fun p q => p.sector ≠ q.sector)) {p : disk.Put} (hp : p ∈ l) : disk.lastOf l p.sector = some p.data := by
  cases h : disk.lastOf l p.sector with
  | none =>
    unfold disk.lastOf at h
    rw [Option.map_eq_none_iff, List.find?_eq_none] at h
    exact (h p (List.mem_reverse.2 hp) (decide_eq_true rfl)).elim
  | some b =>
    obtain ⟨q, hq, h1, h2⟩ := lastOf_some h
    have e : p = q := by
      obtain ⟨i, hi, rfl⟩ := List.getElem_of_mem hp
      obtain ⟨j, hj, rfl⟩ := List.getElem_of_mem hq
      rcases Nat.lt_trichotomy i j with h3 | h3 | h3
      · exact absurd h1.symm (List.pairwise_iff_getElem.1 hd i j hi hj h3)
      · subst h3; rfl
      · exact absurd h1 (List.pairwise_iff_getElem.1 hd j i hj hi h3)
    rw [e, h2]
def flushS (S : List disk.Put) : List disk.Act := if S = [] then [] else [flushA]
def actsSD (S D : List disk.Put) : List disk.Act := putA S ++ flushS S ++ putA D ++ [flushA]
end files
end Go.Proofs.YtpfehnopghffjaaGreatDoor
namespace Go.Proofs.YtpfehnopghffjaaGreatDoor
open Go room
theorem Ev.neA {P : Program} {e : Env} {w : World} {x y : Operand} {T T' : TypeId} {xs ys : List Value} {q : Bool} (hx : look e x = some (.agg xs.toArray)) (hy : look e y = some (.agg ys.toArray)) (hm : P.eqGuardType P.depth T = false) (hq : ∀ w, (Op.equalIn 10000 T (.agg xs.toArray) (.agg ys.toArray)).run P w = .ok q w) : Ev P e (.binOp .neq T x y T') w (.bool (!q)) :=
  fun w' _ ρ hρ o ho => by
    simp [execOp, ho, hρ _ _ hx, hρ _ _ hy, run_eqGuard_agg, hm, run_neq_struct, hq]
theorem part_one {P : Program} {T : TypeId} {d : TypeDesc} (hT : P.underlying T = some d) (hd : aggD d = false) {cs : List Value} {o : Nat} {v : Value} (hv : cs[o]? = some v) (w : World) : (part T cs.toArray o).run P w = .ok v w := by
  simp [part, isAgg_run hT, hd, hv]
theorem piece_eq (a b : Piece) (w : World) : (Op.equalIn 10000 40 (.agg #[i64 a.fr, i64 a.ct]) (.agg #[i64 b.fr, i64 b.ct])).run Tryz.prog w = .ok (decide (a = b)) w := by
  have hf : Tryz.prog.underlying 40 = some (.struct (Tryz.prog.fieldsOf 40)) := by unfold Program.fieldsOf; rw [Tryz.underlying40]
  rw [run_equalIn_agg (P := Tryz.prog) w 9999 40 _ _ hf (by kernel_rfl)]
  have p0 : ∀ (c : Piece), (part 3 #[i64 c.fr, i64 c.ct] 0).run Tryz.prog = fun w => .ok (i64 c.fr) w := fun c => funext fun w => part_one (cs := [_, _]) Tryz.underlying3 rfl rfl w
  have p1 : ∀ (c : Piece), (part 3 #[i64 c.fr, i64 c.ct] 1).run Tryz.prog = fun w => .ok (i64 c.ct) w := fun c => funext fun w => part_one (cs := [_, _]) Tryz.underlying3 rfl rfl w
  have e2 : ∀ x y : Int, (Op.equalIn 9999 3 (i64 x) (i64 y)).run Tryz.prog = fun w => .ok (decide (x = y)) w := fun x y => funext fun w => by
    have := run_equalIn_int (P := Tryz.prog) w 9998 3 .i64 .i64 x y Tryz.underlying3
    rw [this]
    by_cases h : x = y <;> simp [h]
  unfold Program.fieldsOf
  rw [Tryz.underlying40]
  obtain ⟨af, ac⟩ := a
  obtain ⟨bf, bc⟩ := b
  have q0 := p0 ⟨af, ac⟩; have q0' := p0 ⟨bf, bc⟩
  have q1 := p1 ⟨af, ac⟩; have q1' := p1 ⟨bf, bc⟩
  simp only at q0 q0' q1 q1'
  simp only [Op.eqFields, Sem.run_bind, Sem.run_ite, Sem.run_pure, q0, q0', q1, q1', e2, Result.andThen_ok, Piece.mk.injEq]
  by_cases h0 : af = bf <;> by_cases h1 : ac = bc <;> simp [h0, h1]
namespace room
def inP (p : Piece) (k : Nat) : Int := if p.fr ≤ (k : Int) ∧ (k : Int) < p.fr + p.ct then 1 else 0
def cnt : List Piece → Nat → Int
  | [], _ => 0
  | p :: l, k => inP p k + cnt l k
theorem cnt_apart : ∀ {l : List Piece}, l.Pairwise apart → ∀ k, cnt l k = if covB l k = true then 1 else 0
  | [], _, k => rfl
  | p :: l, h, k => by
    obtain ⟨h1, h2⟩ := List.pairwise_cons.1 h
    have ih := cnt_apart h2 k
    rw [cnt, ih, show covB (p :: l) k = (decide (p.fr ≤ (k : Int) ∧ (k : Int) < p.fr + p.ct) || covB l k) from by simp [covB]]
    unfold inP
    by_cases hp : p.fr ≤ (k : Int) ∧ (k : Int) < p.fr + p.ct
    · have hn : covB l k = false := covB_false (fun q hq hh => by have := h1 q hq; unfold apart at this; omega)
      rw [if_pos hp, hn, decide_eq_true hp]; rfl
    · rw [if_neg hp, decide_eq_false hp, Bool.false_or, Int.zero_add]
end room
end Go.Proofs.YtpfehnopghffjaaGreatDoor
namespace Go.Proofs.YtpfehnopghffjaaGreatDoor
open Go
namespace room
def sumN (f : Nat → Int) : Nat → Int
  | 0 => 0
  | n + 1 => sumN f n + f n
theorem sumN_add (f g : Nat → Int) : ∀ n, sumN (fun k => f k + g k) n = sumN f n + sumN g n
  | 0 => rfl
  | n + 1 => by rw [sumN, sumN, sumN, sumN_add f g n]; omega
theorem sumN_le {f : Nat → Int} : ∀ {n : Nat}, (∀ k, k < n → f k ≤ 1) → sumN f n ≤ n
  | 0, _ => by simp [sumN]
  | n + 1, h => by have := sumN_le (f := f) (n := n) (fun k hk => h k (by omega)); have := h n (by omega); rw [sumN]; omega
theorem sum_in {p : Piece} (h0 : 0 ≤ p.fr) (h1 : 0 ≤ p.ct) : ∀ n : Nat, sumN (inP p) n = max 0 (min (n : Int) (p.fr + p.ct) - p.fr)
  | 0 => by rw [sumN]; omega
  | n + 1 => by
    rw [sumN, sum_in h0 h1 n]
    unfold inP
    split <;> omega
theorem total_sum {n : Nat} : ∀ {l : List Piece}, (∀ p ∈ l, okP (n : Int) p) → totalF l = sumN (cnt l) n
  | [], _ => by
    rw [totalF]
    induction n with
    | zero => rfl
    | succ n ih => rw [sumN, ← ih (fun p hp => by cases hp)]; rfl
  | p :: l, h => by
    have h0 := h p (by simp)
    unfold okP at h0
    rw [totalF, total_sum (fun q hq => h q (List.mem_cons_of_mem _ hq)), show cnt (p :: l) = fun k => inP p k + cnt l k from rfl, sumN_add, sum_in (by omega) (by omega)]
    omega
theorem total_ge : ∀ {l : List Piece}, (∀ p ∈ l, 1 ≤ p.ct) → (l.length : Int) ≤ totalF l
  | [], _ => by simp [totalF]
  | p :: l, h => by
    have h0 := h p (by simp)
    have := total_ge (l := l) (fun q hq => h q (List.mem_cons_of_mem _ hq))
    simp only [totalF, List.length_cons]; omega
theorem may_length {n : Nat} {l : List Piece} (h : mayP (n : Int) l) : l.length ≤ n ∧ totalF l ≤ n := by
  have h1 := total_ge (l := l) (fun p hp => (h.1 p hp).1)
  have h2 := total_sum h.1
  have h3 := sumN_le (f := cnt l) (n := n) (fun k _ => by rw [cnt_apart h.2]; split <;> omega)
  omega
theorem take_append : ∀ {o r : List Piece} {m : Int}, (∀ p ∈ o, 1 ≤ p.ct) → totalF o ≤ m → takeF (o ++ r) m = o ++ takeF r (m - totalF o)
  | [], r, m, _, _ => by simp [totalF]
  | p :: o, r, m, h, hm => by
    have h0 := h p (by simp)
    have h1 := total_pos (l := o) (fun q hq => h q (List.mem_cons_of_mem _ hq))
    simp only [totalF] at hm
    rw [List.cons_append, takeF, if_neg (by omega), show min p.ct m = p.ct by omega, take_append (fun q hq => h q (List.mem_cons_of_mem _ hq)) (by omega), totalF, show m - p.ct - totalF o = m - (p.ct + totalF o) by omega]
    rfl
end room
end Go.Proofs.YtpfehnopghffjaaGreatDoor
namespace Go.Proofs.YtpfehnopghffjaaGreatDoor
open Go
namespace files
open room
theorem sect_mem {l : List Piece} (h : ∀ p ∈ l, 0 ≤ p.ct) {n : Int} : n ∈ sectF l ↔ ∃ p ∈ l, p.fr ≤ n ∧ n < p.fr + p.ct := by
  unfold sectF
  rw [List.mem_flatMap]
  constructor
  · rintro ⟨p, hp, hn⟩
    unfold oneF at hn
    obtain ⟨k, hk, rfl⟩ := List.mem_map.1 hn
    rw [List.mem_range] at hk
    have := h p hp
    exact ⟨p, hp, by omega, by omega⟩
  · rintro ⟨p, hp, h1, h2⟩
    refine ⟨p, hp, ?_⟩
    unfold oneF
    exact List.mem_map.2 ⟨(n - p.fr).toNat, List.mem_range.2 (by omega), by omega⟩
theorem sect_cons (p : Piece) (l : List Piece) : sectF (p :: l) = oneF p p.ct.toNat ++ sectF l := by simp [sectF]
theorem sect_append (a b : List Piece) : sectF (a ++ b) = sectF a ++ sectF b := by simp [sectF]
theorem sect_nodup : ∀ {l : List Piece}, (∀ p ∈ l, 0 ≤ p.ct) → l.Pairwise apart → (sectF l).Pairwise (fun a b => a ≠ b)
  | [], _, _ => .nil
  | p :: l, h, ha => by
    obtain ⟨h1, h2⟩ := List.pairwise_cons.1 ha
    rw [sect_cons]
    refine List.pairwise_append.2 ⟨?_, sect_nodup (fun q hq => h q (by simp [hq])) h2, fun a ha b hb e => ?_⟩
    · unfold oneF
      rw [List.pairwise_map]
      exact List.pairwise_lt_range.imp (fun {a b} h => by omega)
    · subst e
      unfold oneF at ha
      obtain ⟨k, hk, rfl⟩ := List.mem_map.1 ha
      rw [List.mem_range] at hk
      obtain ⟨q, hq, h3, h4⟩ := (sect_mem (fun q hq => h q (by simp [hq]))).1 hb
      have := h1 q hq
      unfold apart at this
      omega
theorem sect_total : ∀ {l : List Piece}, (∀ p ∈ l, 0 ≤ p.ct) → ((sectF l).length : Int) = totalF l
  | [], _ => rfl
  | p :: l, h => by
    have h0 := h p (by simp)
    have ih := sect_total (l := l) (fun q hq => h q (by simp [hq]))
    rw [sect_cons, List.length_append, one_length, totalF]
    omega
theorem may_mono {N M : Nat} {l : List Piece} (h : N ≤ M) (hm : mayP (N : Int) l) : mayP (M : Int) l :=
  ⟨fun p hp => by have := hm.1 p hp; unfold okP at this ⊢; omega, hm.2⟩
theorem may_check {N : Nat} {l : List Piece} (h : N ≤ 4096) (hm : mayP (N : Int) l) : checkR (N : Int) l = 0 ∧ checkR 4096 l = 0 := by
  have h1 := (may_length hm).1
  exact ⟨check_0 (by omega) (by omega) hm, check_0 (by omega) (by omega) (may_mono (M := 4096) h hm)⟩
theorem may_sub {N : Int} {l m : List Piece} (h : List.Sublist l m) (hm : mayP N m) : mayP N l := ⟨fun p hp => hm.1 p (h.subset hp), hm.2.sublist h⟩
theorem may_perm {N : Int} {l m : List Piece} (h : l.Perm m) (hm : mayP N m) : mayP N l := ⟨fun p hp => hm.1 p (h.mem_iff.1 hp), (h.pairwise_iff (R := apart) (fun h => apart_symm h)).2 hm.2⟩
theorem may_pos {N : Int} {l : List Piece} (hm : mayP N l) : ∀ p ∈ l, 0 ≤ p.ct := fun p hp => by have := hm.1 p hp; unfold okP at this; omega
abbrev New1 := Change × List Piece
def fileOf (x : New1) : File := ⟨x.1.key, x.1.value.length, x.2⟩
def putsN (N : List New1) : List disk.Put := N.flatMap (fun x => putsV x.2 x.1.value)
theorem range_getD (l : List Int) : (List.range l.length).map (fun i => l.getD i 0) = l := by
  refine List.ext_getElem (by simp) (fun i h1 h2 => ?_)
  rw [List.getElem_map, List.getElem_range, List.getD_eq_getElem?_getD, List.getElem?_eq_getElem h2]
  rfl
theorem putsV_sector (p : List Piece) (v : Bs) : (putsV p v).map (·.sector) = sectE p := by
  unfold putsV
  rw [List.map_map]
  exact range_getD _
theorem secV_length (v : Bs) (i : Nat) : (secV v i).length = 128 := by
  unfold secV
  simp only [List.length_append, List.length_replicate, List.length_take, List.length_drop]
  omega
theorem putsN_sector {N : List New1} (h : ∀ x ∈ N, checkR 4096 x.2 = 0) : (putsN N).map (·.sector) = sectF (N.flatMap (·.2)) := by
  induction N with
  | nil => rfl
  | cons x N ih =>
    rw [putsN, List.flatMap_cons, List.map_append, putsV_sector, List.flatMap_cons, sect_append]
    have e : sectE x.2 = sectF x.2 := by unfold sectE; rw [if_pos (h x (by simp))]
    rw [e]
    congr 1
    exact ih (fun y hy => h y (by simp [hy]))
theorem putsN_ok {n : Nat} {used : List Piece} {N : List New1} (hm : mayP (n : Int) (used ++ N.flatMap (·.2))) (h : ∀ x ∈ N, (∀ q ∈ x.2, 80 ≤ q.fr) ∧ totalF x.2 = needF x.1.value.length ∧ checkR 4096 x.2 = 0) :
    (∀ p ∈ putsN N, 80 ≤ p.sector ∧ p.sector < (n : Int) ∧ p.data.length = 128 ∧ p.sector ∉ sectF used) ∧ (putsN N).Pairwise (fun p q => p.sector ≠ q.sector) ∧ (putsN N).length ≤ n := by
  have hs := putsN_sector (fun x hx => (h x hx).2.2)
  have hm2 := may_sub (List.sublist_append_right used _) hm
  have hn : (putsN N).Pairwise (fun p q => p.sector ≠ q.sector) := by
    rw [← List.pairwise_map (f := disk.Put.sector) (R := fun a b => a ≠ b), hs]
    exact sect_nodup (may_pos hm2) hm2.2
  refine ⟨fun p hp => ?_, hn, ?_⟩
  · have hmem : p.sector ∈ sectF (N.flatMap (·.2)) := by rw [← hs]; exact List.mem_map.2 ⟨p, hp, rfl⟩
    obtain ⟨q, hq, h1, h2⟩ := (sect_mem (may_pos hm2)).1 hmem
    have hok := hm2.1 q hq
    unfold okP at hok
    obtain ⟨x, hx, hqx⟩ := List.mem_flatMap.1 hq
    have h80 := (h x hx).1 q hqx
    refine ⟨by omega, by omega, ?_, fun hu => ?_⟩
    · obtain ⟨y, hy, hpy⟩ := List.mem_flatMap.1 hp
      unfold putsV at hpy
      obtain ⟨i, _, rfl⟩ := List.mem_map.1 hpy
      exact secV_length _ _
    · obtain ⟨r, hr, h3, h4⟩ := (sect_mem (may_pos (may_sub (List.sublist_append_left used _) hm))).1 hu
      have := (List.pairwise_append.1 hm.2).2.2 r hr q hq
      unfold apart at this
      omega
  · have e : (putsN N).length = (sectF (N.flatMap (·.2))).length := by rw [← hs, List.length_map]
    have h1 := sect_total (may_pos hm2)
    have h2 := (may_length hm2).2
    omega
theorem secs_take (v : Bs) : ∀ n, ((List.range n).flatMap (secV v)).take v.length = v.take (n * 128)
  | 0 => by simp
  | n + 1 => by
    have ih := secs_take v n
    have hl : ((List.range n).flatMap (secV v)).length = n * 128 := flat_length n (fun i _ => secV_length v i)
    rw [List.range_succ, List.flatMap_append, List.flatMap_cons, List.flatMap_nil, List.append_nil, Nat.succ_mul]
    by_cases h : v.length ≤ n * 128
    · rw [List.take_append_of_le_length (by omega), ih, List.take_of_length_le h, List.take_of_length_le (by omega)]
    · rw [List.take_append, ih, hl, List.take_add]
      congr 1
      unfold secV
      by_cases h2 : 128 ≤ v.length - n * 128
      · have e : ((v.drop (n * 128)).take 128).length = 128 := by rw [List.length_take, List.length_drop]; omega
        rw [e, Nat.sub_self, List.replicate_zero, List.append_nil, List.take_of_length_le (by omega)]
      · have e : ((v.drop (n * 128)).take 128).length = v.length - n * 128 := by rw [List.length_take, List.length_drop]; omega
        rw [List.take_append_of_le_length (by omega), List.take_of_length_le (by omega)]
theorem bytes_new {y : Disk} {x : New1} (ht : totalF x.2 = needF x.1.value.length) (hc : checkR 4096 x.2 = 0) (h : ∀ p ∈ putsV x.2 x.1.value, disk.readF y p.sector = p.data) : bytesF y (fileOf x) = x.1.value := by
  unfold bytesF fileOf
  simp only
  have hk : ((sectE x.2).length : Int) = needF x.1.value.length := by
    unfold sectE
    rw [if_pos hc, ← ht]
    exact sect_total (fun p hp => by have := (check_ok hc).2.2.2.1 p hp; unfold okP at this; omega)
  have e : (sectE x.2).flatMap (fun n => disk.readF y n) = (List.range (sectE x.2).length).flatMap (secV x.1.value) := by
    conv => lhs; rw [← range_getD (sectE x.2)]
    rw [List.flatMap_map]
    exact flat_congr _ (fun i hi => h ⟨(sectE x.2).getD i 0, secV x.1.value i⟩ (by unfold putsV; exact List.mem_map.2 ⟨i, List.mem_range.2 hi, rfl⟩))
  rw [e, Int.toNat_natCast, secs_take, List.take_of_length_le]
  unfold needF at hk
  omega
theorem bytes_old {d y : Disk} {f : File} (h : ∀ n ∈ sectE f.ps, disk.readF y n = disk.readF d n) : bytesF y f = bytesF d f := by
  unfold bytesF
  congr 1
  rw [List.flatMap_def, List.flatMap_def]
  congr 1
  exact List.map_congr_left h
end files
end Go.Proofs.YtpfehnopghffjaaGreatDoor
namespace Go.Proofs.YtpfehnopghffjaaGreatDoor
open Go
namespace files
open room
theorem slot_same {d y : Disk} {n : Nat} (h : ∀ i, i < 8 → disk.readF y ((n + i : Nat) : Int) = disk.readF d ((n + i : Nat) : Int)) : slotB y n = slotB d n := flat_congr 8 h
theorem slot_new {y : Disk} {b : Bs} {n : Nat} (hb : b.length = 1024) (h : ∀ i, i < 8 → disk.readF y ((n + i : Nat) : Int) = (b.drop (i * 128)).take 128) : slotB y n = b := by
  unfold slotB
  rw [flat_congr 8 h, take_blocks, List.take_of_length_le (by omega)]
theorem slot_ok_same {d y : Disk} {n : Nat} (hct : y.count = d.count) (h : slotB y n = slotB d n) : slotF y n = slotF d n ∧ (slotOK y n ↔ slotOK d n) := by
  have e : slotF y n = slotF d n := by unfold slotF; rw [h]
  refine ⟨e, ?_⟩
  unfold slotOK
  rw [e, h, hct]
theorem mount_new {d y : Disk} {x : Dir} {b : Bs} (hd : (mountF d).2.2 = 0) (hy : disk.checkF y = 0) (hct : y.count = d.count) (hat : ∀ i, i < 8 → disk.readF y (((mountF d).2.1 + i : Nat) : Int) = disk.readF d (((mountF d).2.1 + i : Nat) : Int))
    (hnew : ∀ i, i < 8 → disk.readF y ((8 - (mountF d).2.1 + i : Nat) : Int) = (b.drop (i * 128)).take 128) (hw : writeF x = (b, 0)) (hck : checkR d.count (allP x.fs) = 0) (hg : (mountF d).1.gen < x.gen) : mountF y = (x, 8 - (mountF d).2.1, 0) := by
  obtain ⟨h1, h2, h3, h4, h5⟩ := mountF_ok hd
  obtain ⟨e, o⟩ := slot_ok_same hct (slot_same hat)
  have hsb := slot_new (writeF_len hw) hnew
  have hr := read_write hw
  have en : slotF y (8 - (mountF d).2.1) = x := by unfold slotF; rw [hsb, hr]
  have on : slotOK y (8 - (mountF d).2.1) := by unfold slotOK; rw [en, hsb, hr, hct]; exact ⟨rfl, hck⟩
  rw [h5] at hg
  rcases h3 with h3 | h3
  · rw [h3] at e o h4 en on hg ⊢
    rw [mountF_8 hy (by omega) (fun h => h.2 ⟨on, by rw [e, en]; exact hg⟩) on, en]
  · rw [h3] at e o h4 en on hg ⊢
    rw [mountF_0 hy (by omega) on (fun h => by rw [en, e] at h; omega), en]
theorem genTo_le (d : Disk) (o : Nat) (g : Int) : ∀ k, g ≤ genTo d o g k
  | 0 => Int.le_refl _
  | k + 1 => by
    have := genTo_le d o g k
    rw [genTo]
    split <;> omega
theorem filter_flat {α β : Type} (p : α → Bool) (f : α → List β) : ∀ l : List α, List.Sublist ((l.filter p).flatMap f) (l.flatMap f)
  | [] => .slnil
  | a :: l => by
    rw [List.filter_cons]
    split
    · rw [List.flatMap_cons, List.flatMap_cons]
      exact List.Sublist.append (List.Sublist.refl _) (filter_flat p f l)
    · rw [List.flatMap_cons]
      exact (filter_flat p f l).trans (List.sublist_append_right _ _)
theorem flatMap_fileOf (N : List New1) : allP (N.map fileOf) = N.flatMap (·.2) := by
  unfold allP
  rw [List.flatMap_map]
  rfl
structure Turned (d : Disk) (l : List Change) (N : List New1) (b : Bs) : Prop where
  mt : (mountF d).2.2 = 0
  wr : wrongF (mountF d).1 l = 0
  fr : N.map (·.1) = freshN l
  may : mayP (d.count.toNat : Int) (allP (mountF d).1.fs ++ N.flatMap (·.2))
  each : ∀ x ∈ N, (∀ q ∈ x.2, 80 ≤ q.fr) ∧ totalF x.2 = needF x.1.value.length ∧ checkR 4096 x.2 = 0
  wrt : writeF (turnD d (mountF d).1 (mountF d).2.1 (keepN (mountF d).1 l ++ N.map fileOf)) = (b, 0)
  acts : (turnF d l).1 = actsSD (putsN N) (dirP b (8 - (mountF d).2.1))
section
variable {d : Disk} {l : List Change} {N : List New1} {b : Bs}
theorem Turned.count (h : Turned d l N b) : ((d.count.toNat : Nat) : Int) = d.count := by have := (mount_may h.mt).2.1; exact Int.toNat_of_nonneg (by omega)
theorem Turned.at_ (h : Turned d l N b) : (mountF d).2.1 = 0 ∨ (mountF d).2.1 = 8 := (mountF_ok h.mt).2.2.1
theorem Turned.ck (h : Turned d l N b) : checkR d.count (allP (turnD d (mountF d).1 (mountF d).2.1 (keepN (mountF d).1 l ++ N.map fileOf)).fs) = 0 := by
  have hc := (check_ok (mount_may h.mt).2.2.2.2.1).2.1
  have hct := h.count
  rw [← hct]
  refine (may_check (by omega) ?_).1
  have e : (turnD d (mountF d).1 (mountF d).2.1 (keepN (mountF d).1 l ++ N.map fileOf)).fs = sortN (keepN (mountF d).1 l ++ N.map fileOf) := rfl
  rw [e]
  refine may_perm (m := allP (keepN (mountF d).1 l ++ N.map fileOf)) (sortN_perm.flatMap_right _) ?_
  have e2 : allP (keepN (mountF d).1 l ++ N.map fileOf) = allP (keepN (mountF d).1 l) ++ N.flatMap (·.2) := by rw [← flatMap_fileOf]; simp [allP]
  rw [e2]
  exact may_sub (List.Sublist.append (filter_flat _ _ _) (List.Sublist.refl _)) h.may
theorem Turned.gen (h : Turned d l N b) : (mountF d).1.gen < (turnD d (mountF d).1 (mountF d).2.1 (keepN (mountF d).1 l ++ N.map fileOf)).gen := by
  show _ < genTo d (8 - (mountF d).2.1) (mountF d).1.gen 8 + 1
  have := genTo_le d (8 - (mountF d).2.1) (mountF d).1.gen 8
  omega
theorem Turned.okS (h : Turned d l N b) : (∀ p ∈ putsN N, 80 ≤ p.sector ∧ p.sector < d.count ∧ p.data.length = 128 ∧ p.sector ∉ sectF (allP (mountF d).1.fs)) ∧ (putsN N).Pairwise (fun p q => p.sector ≠ q.sector) ∧ ((putsN N).length : Int) ≤ d.count := by
  obtain ⟨h1, h2, h3⟩ := putsN_ok h.may h.each
  rw [h.count] at h1
  have := h.count
  exact ⟨h1, h2, by omega⟩
def Holds (y : Disk) (v : List NV) : Prop := (mountF y).2.2 = 0 ∧ viewF y = v
theorem sectE_sub {f : File} (hf : f ∈ (mountF d).1.fs) {n : Int} (hn : n ∈ sectE f.ps) : n ∈ sectF (allP (mountF d).1.fs) := by
  unfold sectE at hn
  split at hn
  · unfold sectF at hn ⊢
    obtain ⟨p, hp, h⟩ := List.mem_flatMap.1 hn
    exact List.mem_flatMap.2 ⟨p, List.mem_flatMap.2 ⟨f, hf, hp⟩, h⟩
  · cases hn
theorem Turned.sect (h : Turned d l N b) {n : Int} (hn : n ∈ sectF (allP (mountF d).1.fs)) : 80 ≤ n ∧ n < d.count ∧ ∀ p ∈ putsN N, ¬ p.sector = n := by
  obtain ⟨_, _, _, hm, hck, _⟩ := mount_may h.mt
  have hmp := (check_ok hck).2.2.2
  obtain ⟨q, hq, h1, h2⟩ := (sect_mem (may_pos hmp)).1 hn
  have h3 := hmp.1 q hq
  have h4 := hm.2.2.1 q hq
  unfold okP at h3
  exact ⟨by omega, by omega, fun p hp e => (h.okS.1 p hp).2.2.2 (by rw [e]; exact hn)⟩
theorem Turned.before (h : Turned d l N b) {y : Disk} (hy : disk.checkF y = 0) (hct : y.count = d.count) (hm : mountF y = mountF d) (hs : ∀ n, 80 ≤ n → n < d.count → (∀ p ∈ putsN N, ¬ p.sector = n) → disk.readF y n = disk.readF d n) : Holds y (viewF d) := by
  refine ⟨by rw [hm]; exact h.mt, ?_⟩
  unfold viewF
  rw [hm]
  refine List.map_congr_left (fun f hf => ?_)
  rw [bytes_old (fun n hn => ?_)]
  obtain ⟨h1, h2, h3⟩ := h.sect (sectE_sub hf hn)
  exact hs n h1 h2 h3
theorem Turned.behind (h : Turned d l N b) {y : Disk} (hy : disk.checkF y = 0) (hct : y.count = d.count) (hr : ∀ n, 0 ≤ n → n < d.count → (n < ((8 - (mountF d).2.1 : Nat) : Int) ∨ ((8 - (mountF d).2.1 + 8 : Nat) : Int) ≤ n) → disk.readF y n = match disk.lastOf (putsN N) n with | some x => x | none => disk.readF d n)
    (hn : ∀ i, i < 8 → disk.readF y ((8 - (mountF d).2.1 + i : Nat) : Int) = (b.drop (i * 128)).take 128) : mountF y = (turnD d (mountF d).1 (mountF d).2.1 (keepN (mountF d).1 l ++ N.map fileOf), 8 - (mountF d).2.1, 0) ∧ Holds y (map2F d l) := by
  have h2 := (mount_may h.mt).2.1
  have h3 := h.at_
  have hmt : mountF y = (turnD d (mountF d).1 (mountF d).2.1 (keepN (mountF d).1 l ++ N.map fileOf), 8 - (mountF d).2.1, 0) := by
    refine mount_new h.mt hy hct (fun i hi => ?_) hn h.wrt h.ck h.gen
    rw [hr _ (by omega) (by omega) (by omega), lastOf_none (fun p hp e => by have := (h.okS.1 p hp).1; omega)]
  refine ⟨hmt, by rw [hmt], ?_⟩
  refine view_turned h.mt h.wr (news := N.map fileOf) (by rw [hmt]; rfl) ?_ (fun f hf => bytes_old (fun n hn => ?_)) (by rw [hmt])
  · rw [← h.fr, List.map_map, List.map_map]
    refine List.map_congr_left (fun x hx => ?_)
    show ((fileOf x).name, bytesF y (fileOf x)) = (x.1.key, x.1.value)
    rw [bytes_new (h.each x hx).2.1 (h.each x hx).2.2 (fun p hp => ?_)]
    · rfl
    · have hp2 : p ∈ putsN N := List.mem_flatMap.2 ⟨x, hx, hp⟩
      have h4 := h.okS.1 p hp2
      rw [hr _ (by omega) (by omega) (by omega), lastOf_of h.okS.2.1 hp2]
  · obtain ⟨h5, h6, h7⟩ := h.sect (sectE_sub (List.mem_filter.1 hf).1 hn)
    rw [hr _ (by omega) (by omega) (by omega), lastOf_none h7]
end
end files
end Go.Proofs.YtpfehnopghffjaaGreatDoor
namespace Go.Proofs.YtpfehnopghffjaaGreatDoor
open Go
open room files
namespace files
end files
attribute [local irreducible] readD slotB slotF mountF slotOK checkR disk.readF findTo
theorem tDir.own {w : World} {v : Value} {x : Dir} {P Q B : Nat → Prop} (h : OwnO tFileO Q 28 w v x.fs B) (hb : ∀ k, B k → P k) (hq : ∀ k, Q k → P k) (hg : -9223372036854775808 ≤ x.gen ∧ x.gen ≤ 9223372036854775807) : tDir.rep P w (.agg #[i64 x.gen, v]) x := by
  obtain ⟨a, cap, rfl, _⟩ := OwnO.val h
  exact tDir.mk (own_files h hb hq) hg
theorem readD_bd (b : Bs) : -9223372036854775808 ≤ (readD b).1.gen ∧ (readD b).1.gen ≤ 9223372036854775807 := by
  by_cases h : (readD b).2 = 0
  · obtain ⟨_, hm⟩ := checkD_ok (writeF_ok (write_read h)).1
    have := hm.1
    omega
  · rw [read_bad h]
    exact ⟨by show (-9223372036854775808 : Int) ≤ 0; decide, by show (0 : Int) ≤ _; decide⟩
end Go.Proofs.YtpfehnopghffjaaGreatDoor
namespace Go.Proofs.YtpfehnopghffjaaGreatDoor
open Go
theorem O.w {F : Fr} {e : Env} {k : List It} {w : World} {all rest : List Oper} {op : Op} {ty : TypeId} {pos : String} {af : Array Edge} {g : Option (Nat × Bool)} {Post : Value → World → Prop} (hg : gd e all g = some true) (h : DoV F.P e op w Post) (next : ∀ v w2, Post v w2 → O F e all rest k w2) : O F e all (⟨none, op, ty, pos, af, g⟩ :: rest) k w := by
  intro w' hw a ha
  refine wpList_step fun K hK => ?_
  rw [if_pos (gd_wanted ha hg)]
  obtain ⟨v, w2, w3, hr, hs, hp⟩ := h w' hw a.eval (fun x u hx => ha.ev hx) ⟨none, op, ty, pos, af, g⟩ rfl
  unfold Oper.wp
  rw [hr]
  exact hK _ _ (next v w2 hp w3 hs _ (ha.put0 v))
section
variable {P : Program} {e : Env} {w : World} {x y : Operand} {T E : TypeId} {α : Type} {t : Ty α} {Q : Nat → Prop} {ys : List α} {b cap n i : Nat}
end
end Go.Proofs.YtpfehnopghffjaaGreatDoor
namespace Go.Proofs.YtpfehnopghffjaaGreatDoor
open Go
open room files
theorem Own.at {α : Type} {t : Ty α} {Q : Nat → Prop} {E : TypeId} {w : World} {xs : List α} {b n cap i : Nat} {x : α} (hO : Own t Q E w (.slice (some ⟨b, 0, none⟩) n cap) xs b) (hi : xs[i]? = some x) : ∃ u, Cells w b (0 + i * t.size) u.cells.toList ∧ t.rep Q w u x := by
  obtain ⟨hl, ⟨_, h⟩ | ⟨cap', us, sp, hv', hc, he, hB, hlen⟩⟩ := hO
  · cases h
  · cases hv'
    obtain ⟨u, hu, hr⟩ := he.get hi
    refine ⟨u, ?_, hr⟩
    have hsz := he.mem (n := t.size) (fun u x h => t.sz h)
    have h1 := (hB.cells).left.drop (i * t.size)
    rw [← flat_drop i hsz] at h1
    have hlt : i < us.length := (List.getElem?_eq_some_iff.1 hu).1
    have h2 : us.drop i = u :: us.drop (i + 1) := by
      rw [List.getElem?_eq_getElem hlt] at hu
      rw [List.drop_eq_getElem_cons hlt]
      simp at hu
      rw [hu]
    rw [h2, flat_cons] at h1
    exact h1.left
namespace files
section
variable {α : Type} {p : α → Bool} {l : List α}
end
end files
attribute [local irreducible] readD slotB slotF mountF slotOK checkR disk.readF findTo findF writeF nameF
end Go.Proofs.YtpfehnopghffjaaGreatDoor
namespace Go.Proofs.YtpfehnopghffjaaGreatDoor
open Go Go.Sort
namespace files
abbrev FV := Bs × Int × Option Addr × Nat × Nat
instance : Inhabited FV := ⟨⟨[], 0, none, 0, 0⟩⟩
end files
end Go.Proofs.YtpfehnopghffjaaGreatDoor
namespace Go.Proofs.YtpfehnopghffjaaGreatDoor
open Go
section
variable {P : Program} {e : Env} {w : World} {x y : Operand} {T T' E : TypeId}
end
namespace disk
def tActO : Ty Act := (tBool.pair tPutO).map (fun a => (a.flush, a.put))
theorem tActO.val {P : Nat → Prop} {w : World} {v : Value} {a : Act} (h : tActO.rep P w v a) : ∃ u, v = .agg #[.bool a.flush, i64 a.put.sector, u] ∧ tOwnB.rep P w u a.put.data ∧ -9223372036854775808 ≤ a.put.sector ∧ a.put.sector ≤ 9223372036854775807 := by
  obtain ⟨u, u', rfl, rfl, h2⟩ := h
  obtain ⟨x, rfl, h3, h4⟩ := tPutO.val h2
  exact ⟨x, rfl, h3, h4⟩
theorem tActO.mk {P : Nat → Prop} {w : World} {a : Act} {u : Value} (h : tOwnB.rep P w u a.put.data) (h1 : -9223372036854775808 ≤ a.put.sector ∧ a.put.sector ≤ 9223372036854775807) : tActO.rep P w (.agg #[.bool a.flush, i64 a.put.sector, u]) a :=
  ⟨.bool a.flush, .agg #[i64 a.put.sector, u], rfl, rfl, tPutO.mk h h1⟩
theorem tActO.weak {P : Nat → Prop} {w : World} {v : Value} {a : Act} (h : tActO.rep P w v a) : tAct.rep P w v a := by
  obtain ⟨u, u', rfl, h1, h2⟩ := h
  exact ⟨u, u', rfl, h1, tPutO.weak h2⟩
end disk
namespace files
open room
structure TD (w0 : World) (c : Nat) (γ : Nat → Nat) (g : Int) (us : List Piece) (zs : List disk.Act) (fs : List File) (cs : List Change) (vU vA vF vC : Value) (W : World) : Prop where
  cell : Blk W c 24 [i64 g, vF]
  o1 : OwnO tPiece (fun _ => False) 40 W vU us (fun k => γ k = 1)
  o2 : OwnO disk.tActO (fun k => γ k = 6) 78 W vA zs (fun k => γ k = 2)
  o3 : OwnO tFile (fun k => γ k = 5) 28 W vF fs (fun k => γ k = 3)
  o4 : (Sl tree.tChange).rep (fun k => γ k = 8) W vC cs
  ext : Ext (fun _ => False) w0 W
  c0 : γ c = 0
  cw : w0.heap.size ≤ c
  low : ∀ k, k < w0.heap.size → γ k = 5
section
variable {w0 W W' : World} {c : Nat} {γ : Nat → Nat} {g g' : Int} {us us' : List Piece} {zs zs' : List disk.Act} {fs fs' : List File} {cs : List Change} {vU vA vF vU' vA' vF' vC : Value}
theorem TD.lt (h : TD w0 c γ g us zs fs cs vU vA vF vC W) : c < W.heap.size := h.cell.lt
theorem TD.gen (h : TD w0 c γ g us zs fs cs vU vA vF vC W) (hp : Put W W' c 24 [i64 g', vF]) : TD w0 c γ g' us zs fs cs vU vA vF vC W' := by
  have n : ∀ {θ : Nat} {k : Nat}, θ ≠ 0 → γ k = θ → ¬ k = c := fun {θ k} h0 hk e => by rw [e, h.c0] at hk; exact h0 hk.symm
  exact ⟨hp.blk, OwnO.ext h.o1 hp.ext (fun k hk _ e => n (by decide) hk e) (fun _ h _ => h.elim), OwnO.ext h.o2 hp.ext (fun k hk _ e => n (by decide) hk e) (fun k hk _ e => n (by decide) hk e), OwnO.ext h.o3 hp.ext (fun k hk _ e => n (by decide) hk e) (fun k hk _ e => n (by decide) hk e), (Sl tree.tChange).ext h.o4 hp.ext (fun k hk _ e => n (by decide) hk e),
    h.ext.then hp.ext (fun k e _ => by have e : k = c := e; rw [e]; exact h.cw), h.c0, h.cw, h.low⟩
end
end files
end Go.Proofs.YtpfehnopghffjaaGreatDoor
namespace Go.Proofs.YtpfehnopghffjaaGreatDoor
open Go
namespace room
def rowB (n : Nat) (f : Nat → Bool) : List Value := (List.range n).map (fun k => .bool (f k))
theorem rowB_len (n : Nat) (f : Nat → Bool) : (rowB n f).length = n := by simp [rowB]
theorem rowB_get {n : Nat} (f : Nat → Bool) {k : Nat} (h : k < n) : (rowB n f)[k]? = some (.bool (f k)) := by simp [rowB, h]
theorem rowB_congr {n : Nat} {f g : Nat → Bool} (h : ∀ k, k < n → f k = g k) : rowB n f = rowB n g := by
  unfold rowB
  exact List.map_congr_left (fun k hk => by rw [h k (List.mem_range.1 hk)])
theorem rowB_set {n m : Nat} {f : Nat → Bool} {x : Bool} (hm : m < n) : (rowB n f).set m (.bool x) = rowB n (fun k => if k = m then x else f k) := by
  apply List.ext_getElem
  · simp [rowB]
  · intro k h1 h2
    simp only [rowB, List.length_set, List.length_map, List.length_range] at h1
    rw [List.getElem_set]
    simp only [rowB, List.getElem_map, List.getElem_range]
    by_cases hk : m = k
    · subst hk; rw [if_pos rfl, if_pos rfl]
    · rw [if_neg hk, if_neg (fun h => hk h.symm)]
theorem rowB_zero (n : Nat) : List.replicate n (.bool false) = rowB n (fun _ => false) := by
  apply List.ext_getElem
  · simp [rowB]
  · intro k h1 h2; simp [rowB]
def markB (l : List Piece) (p : Piece) (e : Int) (k : Nat) : Bool := covB l k || decide (p.fr ≤ (k : Int) ∧ (k : Int) < e)
theorem not_may_of {N : Int} {l : List Piece} {p : Piece} (hp : p ∈ l) (h : ¬ okP N p) : ¬ mayP N l := fun hm => h (hm.1 p hp)
theorem not_may_at {N : Int} {l : List Piece} {i k : Nat} (hi : i < l.length) (h1 : covB (l.take i) k = true) (h2 : l[i].fr ≤ (k : Int) ∧ (k : Int) < l[i].fr + l[i].ct) : ¬ mayP N l := fun hm => by
  obtain ⟨q, hq, h3, h4⟩ := cov_iff.1 h1
  obtain ⟨j, hj, rfl⟩ := List.mem_take_iff_getElem.1 hq
  have := List.pairwise_iff_getElem.1 hm.2 j i (by omega) hi (by omega)
  unfold apart at this
  omega
theorem may_more {N : Int} {l : List Piece} {i : Nat} (hi : i < l.length) (hm : mayP N (l.take i)) (hok : okP N l[i]) (hn : ∀ k : Nat, l[i].fr ≤ (k : Int) → (k : Int) < l[i].fr + l[i].ct → covB (l.take i) k = false) : mayP N (l.take (i + 1)) := by
  rw [List.take_succ_eq_append_getElem hi]
  refine ⟨fun p hp => ?_, List.pairwise_append.2 ⟨hm.2, List.pairwise_singleton _ _, fun q hq p hp => ?_⟩⟩
  · rcases List.mem_append.1 hp with hp | hp
    · exact hm.1 p hp
    · rw [List.mem_singleton] at hp; subst hp; exact hok
  · rw [List.mem_singleton] at hp; subst hp
    have h1 := hm.1 q hq
    unfold okP at h1 hok
    refine Decidable.byContradiction fun hna => ?_
    unfold apart at hna
    obtain ⟨k, hk⟩ : ∃ k : Nat, (k : Int) = max q.fr l[i].fr := ⟨(max q.fr l[i].fr).toNat, by omega⟩
    have := hn k (by omega) (by omega)
    rw [cov_iff.2 ⟨q, hq, by omega, by omega⟩] at this
    cases this
theorem cov_more {l : List Piece} {i : Nat} (hi : i < l.length) (k : Nat) : covB (l.take (i + 1)) k = markB (l.take i) l[i] (l[i].fr + l[i].ct) k := by
  rw [List.take_succ_eq_append_getElem hi, cov_append, cov_one]
  rfl
theorem mark_none {l : List Piece} {p : Piece} (k : Nat) : markB l p p.fr k = covB l k := by
  unfold markB
  rw [decide_eq_false (by omega), Bool.or_false]
theorem mark_step {l : List Piece} {p : Piece} {m n : Nat} (h : p.fr ≤ (m : Int)) (hm : m < n) : (rowB n (markB l p (m : Int))).set m (.bool true) = rowB n (markB l p ((m + 1 : Nat) : Int)) := by
  rw [rowB_set hm]
  refine rowB_congr (fun k _ => ?_)
  unfold markB
  by_cases hk : k = m
  · subst hk
    rw [if_pos rfl, decide_eq_true (show p.fr ≤ (k : Int) ∧ (k : Int) < ((k + 1 : Nat) : Int) by omega), Bool.or_true]
  · rw [if_neg hk]
    congr 1
    exact decide_eq_decide.2 (by omega)
end room
end Go.Proofs.YtpfehnopghffjaaGreatDoor
namespace Go.Proofs.YtpfehnopghffjaaGreatDoor
open Go room
namespace room
theorem mark_self {l : List Piece} {p : Piece} (k : Nat) : markB l p (k : Int) k = covB l k := by
  unfold markB
  rw [decide_eq_false (by omega), Bool.or_false]
end room
theorem taken_fn {w : World} {v : Value} {l : List Piece} {n : Nat} (h : (Sl tPiece).rep All w v l) (hn : n ≤ 5000) : Fn Tryz.prog 127 [i64 (n : Int), v] w (fun r w2 => ∃ v', r = .tuple #[v', .bool (decide (mayP (n : Int) l))] ∧ (mayP (n : Int) l → v' = .slice (some ⟨w.heap.size, 0, none⟩) n n ∧ Blk w2 w.heap.size 4 (rowB n (covB l))) ∧ Ext (fun _ => False) w w2) := by
  obtain ⟨a, cap, rfl, hcap⟩ := Sl.val h
  have hlim := Sl.lim h
  simp only [Lim] at hlim
  refine Fn.enter (fun w => Tryz.call127 _ w) Tryz.func127 rfl ?_
  refine .seq (.region ?_)
  refine .p rfl rfl (.as rfl) ?_
  refine .p rfl rfl (.as rfl) ?_
  refine .nil (.code (.seq (.keep [(0, _), (1, _)] ⟨rfl, rfl, trivial⟩ (.region ?_))))
  refine .p rfl rfl (.mv rfl) ?_
  refine .v rfl rfl (.make (eb := 1) rfl rfl rfl rfl rfl rfl rfl rfl (by omega)) ?_
  rintro _ w11 ⟨rfl, N11⟩
  have z11 := N11.size
  have B11 : Blk w11 w.heap.size 4 (rowB n (fun _ => false)) := by rw [← rowB_zero]; exact N11.blk
  have X11 := N11.ext
  refine .p rfl rfl (.as rfl) ?_
  refine .nil (.code (.seq (.seq (.keep [(6, _), (0, _), (1, _)] ⟨rfl, rfl, rfl, trivial⟩ (.region ?_)))))
  refine .p rfl rfl (.as rfl) ?_
  refine .nil (.code (.block ?_))
  refine .loop (S := Nat × World) (fun s => [(0, i64 (n : Int)), (1, .slice a l.length cap), (6, .slice (some ⟨w.heap.size, 0, none⟩) n n), (7, i64 s.1)]) (fun s => s.2) (fun s => s.1 ≤ l.length ∧ Blk s.2 w.heap.size 4 (rowB n (covB (l.take s.1))) ∧ mayP (n : Int) (l.take s.1) ∧ Ext (fun _ => False) w s.2) (fun s => l.length - s.1) (0, w11) ⟨rfl, rfl, rfl, rfl, trivial⟩ rfl ⟨Nat.zero_le _, B11, ⟨fun p hp => (by cases hp), .nil⟩, X11⟩ ?_
  rintro ⟨i, wi⟩ J ⟨hi', Bt, hmay, hX⟩ again
  simp only at hi' Bt hmay hX
  change G _ [(0, i64 (n : Int)), (1, .slice a l.length cap), (6, .slice (some ⟨w.heap.size, 0, none⟩) n n), (7, i64 i)] _ _ wi
  refine .seq (.seq (.region ?_))
  refine .p rfl rfl (.mv rfl) ?_
  refine .p rfl rfl (.mv rfl) ?_
  refine .p rfl rfl (.len rfl rfl) ?_
  refine .p rfl rfl (.lt rfl rfl) ?_
  refine .nil (.code (.keep [(15, _), (0, _), (1, _), (6, _), (7, _)] ⟨rfl, rfl, rfl, rfl, rfl, trivial⟩ ?_))
  refine .condD rfl (fun c15 => ?_) (fun c15 => ?_)
  · have hi : i < l.length := by omega
    obtain ⟨b1, o1, q1, ue, e, _, hcs, hre⟩ := Sl.at ((Sl tPiece).ext0 h hX) (List.getElem?_eq_getElem hi)
    cases e
    obtain ⟨rfl, hr1, hr2⟩ := tPiece.val hre
    refine .skip (.code (.seq (.block (.seq (.keep [(0, _), (1, _), (6, _), (7, _)] ⟨rfl, rfl, rfl, rfl, trivial⟩ (.region ?_))))))
    refine .p rfl rfl (.mv rfl) ?_
    refine .p rfl rfl (.mv rfl) ?_
    refine .p rfl rfl (.indexAddr (s := 2) rfl rfl rfl rfl (by omega)) ?_
    refine .p rfl rfl (.loadA (n := 2) rfl rfl rfl rfl rfl hcs) ?_
    refine .v rfl rfl (.alloc rfl rfl) ?_
    rintro _ w7a ⟨rfl, N7⟩
    refine .s rfl (.storeAll (n := 2) rfl rfl rfl rfl rfl N7.blk rfl) ?_
    intro w7 P7
    have X7 := N7.ext.then P7.ext (by rintro k rfl _; exact Nat.le_refl _)
    have B7 : Blk w7 wi.heap.size 40 [i64 l[i].fr, i64 l[i].ct] := P7.blk
    have Bt7 := Bt.ext X7 (fun x => x)
    have hne : ¬ wi.heap.size = w.heap.size := by have := Bt.lt; omega
    refine .nil (.code (.seq (.seq (.keep [(8, _), (0, _), (1, _), (6, _), (7, _)] ⟨rfl, rfl, rfl, rfl, rfl, trivial⟩ (.region ?_)))))
    refine .p rfl rfl (.fieldAddr rfl rfl rfl rfl) ?_
    refine .p rfl rfl (.load rfl rfl rfl (B7.cell 1)) ?_
    refine .p rfl rfl (.lt rfl rfl) ?_
    refine .p rfl rfl (.mv rfl) ?_
    refine .caseD 25 rfl (fun c25 => ?_) (fun c25 => ?_)
    · refine .skip rfl rfl ?_
      refine .skip rfl rfl ?_
      refine .skip rfl rfl ?_
      refine .p rfl rfl (.pickT rfl rfl) ?_
      refine .p rfl rfl (.mv rfl) ?_
      refine .skip rfl rfl ?_
      refine .skip rfl rfl ?_
      refine .skip rfl rfl ?_
      refine .skip rfl rfl ?_
      refine .p rfl rfl (.pickT rfl rfl) ?_
      refine .p rfl rfl (.mv rfl) ?_
      refine .skip rfl rfl ?_
      refine .skip rfl rfl ?_
      refine .skip rfl rfl ?_
      refine .skip rfl rfl ?_
      refine .skip rfl rfl ?_
      refine .skip rfl rfl ?_
      refine .skip rfl rfl ?_
      refine .p rfl rfl (.pickT rfl rfl) ?_
      refine .nil (.code (.keep [(44, _), (8, _), (0, _), (1, _), (6, _), (7, _)] ⟨rfl, rfl, rfl, rfl, rfl, rfl, trivial⟩ (.condT rfl (.seq (.keep [] trivial (.region ?_))))))
      refine .p rfl rfl (.as rfl) ?_
      refine .p rfl rfl (.as rfl) ?_
      refine .nil (.code ?_)
      refine .ret _ rfl ?_
      have hno : ¬ mayP (n : Int) l := not_may_of (List.getElem_mem hi) (by unfold okP; omega)
      rw [decide_eq_false hno]
      exact ⟨_, rfl, fun hm => absurd hm hno, hX.trans X7⟩
    · refine .p rfl rfl (.fieldAddr rfl rfl rfl rfl) ?_
      refine .p rfl rfl (.load rfl rfl rfl (B7.cell 0)) ?_
      refine .p rfl rfl (.lt rfl rfl) ?_
      refine .p rfl rfl (.pickF rfl rfl) ?_
      refine .p rfl rfl (.mv rfl) ?_
      refine .caseD 30 rfl (fun c30 => ?_) (fun c30 => ?_)
      · refine .skip rfl rfl ?_
        refine .skip rfl rfl ?_
        refine .skip rfl rfl ?_
        refine .skip rfl rfl ?_
        refine .p rfl rfl (.pickT rfl rfl) ?_
        refine .p rfl rfl (.mv rfl) ?_
        refine .skip rfl rfl ?_
        refine .skip rfl rfl ?_
        refine .skip rfl rfl ?_
        refine .skip rfl rfl ?_
        refine .skip rfl rfl ?_
        refine .skip rfl rfl ?_
        refine .skip rfl rfl ?_
        refine .p rfl rfl (.pickT rfl rfl) ?_
        refine .nil (.code (.keep [(44, _), (8, _), (0, _), (1, _), (6, _), (7, _)] ⟨rfl, rfl, rfl, rfl, rfl, rfl, trivial⟩ (.condT rfl (.seq (.keep [] trivial (.region ?_))))))
        refine .p rfl rfl (.as rfl) ?_
        refine .p rfl rfl (.as rfl) ?_
        refine .nil (.code ?_)
        refine .ret _ rfl ?_
        have hno : ¬ mayP (n : Int) l := not_may_of (List.getElem_mem hi) (by unfold okP; omega)
        rw [decide_eq_false hno]
        exact ⟨_, rfl, fun hm => absurd hm hno, hX.trans X7⟩
      · refine .p rfl rfl (.fieldAddr rfl rfl rfl rfl) ?_
        refine .p rfl rfl (.load rfl rfl rfl (B7.cell 0)) ?_
        refine .p rfl rfl (.mv rfl) ?_
        refine .p rfl rfl (.ge rfl rfl) ?_
        refine .p rfl rfl (.pickF rfl rfl) ?_
        refine .p rfl rfl (.mv rfl) ?_
        refine .caseD 36 rfl (fun c36 => ?_) (fun c36 => ?_)
        · refine .skip rfl rfl ?_
          refine .skip rfl rfl ?_
          refine .skip rfl rfl ?_
          refine .skip rfl rfl ?_
          refine .skip rfl rfl ?_
          refine .skip rfl rfl ?_
          refine .skip rfl rfl ?_
          refine .p rfl rfl (.pickT rfl rfl) ?_
          refine .nil (.code (.keep [(44, _), (8, _), (0, _), (1, _), (6, _), (7, _)] ⟨rfl, rfl, rfl, rfl, rfl, rfl, trivial⟩ (.condT rfl (.seq (.keep [] trivial (.region ?_))))))
          refine .p rfl rfl (.as rfl) ?_
          refine .p rfl rfl (.as rfl) ?_
          refine .nil (.code ?_)
          refine .ret _ rfl ?_
          have hno : ¬ mayP (n : Int) l := not_may_of (List.getElem_mem hi) (by unfold okP; omega)
          rw [decide_eq_false hno]
          exact ⟨_, rfl, fun hm => absurd hm hno, hX.trans X7⟩
        · refine .p rfl rfl (.fieldAddr rfl rfl rfl rfl) ?_
          refine .p rfl rfl (.load rfl rfl rfl (B7.cell 1)) ?_
          refine .p rfl rfl (.mv rfl) ?_
          refine .p rfl rfl (.fieldAddr rfl rfl rfl rfl) ?_
          refine .p rfl rfl (.load rfl rfl rfl (B7.cell 0)) ?_
          refine .p rfl rfl (.sub rfl rfl (by omega)) ?_
          refine .p rfl rfl (.gt rfl rfl) ?_
          refine .p rfl rfl (.pickF rfl rfl) ?_
          refine .nil (.code (.keep [(44, _), (8, _), (0, _), (1, _), (6, _), (7, _)] ⟨rfl, rfl, rfl, rfl, rfl, rfl, trivial⟩ ?_))
          refine .condD rfl (fun c44 => ?_) (fun c44 => ?_)
          · refine .seq (.keep [] trivial (.region ?_))
            refine .p rfl rfl (.as rfl) ?_
            refine .p rfl rfl (.as rfl) ?_
            refine .nil (.code ?_)
            refine .ret _ rfl ?_
            have hno : ¬ mayP (n : Int) l := not_may_of (List.getElem_mem hi) (by unfold okP; omega)
            rw [decide_eq_false hno]
            exact ⟨_, rfl, fun hm => absurd hm hno, hX.trans X7⟩
          · have hok : okP (n : Int) l[i] := by unfold okP; omega
            refine .skip (.code (.seq (.keep [(8, _), (0, _), (1, _), (6, _), (7, _)] ⟨rfl, rfl, rfl, rfl, rfl, trivial⟩ (.region ?_))))
            refine .p rfl rfl (.fieldAddr rfl rfl rfl rfl) ?_
            refine .p rfl rfl (.cast (.load rfl rfl rfl (B7.cell 0)) (show _ = i64 ((l[i].fr.toNat : Nat) : Int) by rw [Int.toNat_of_nonneg (by omega)])) ?_
            refine .p rfl rfl (.as rfl) ?_
            refine .nil (.code (.block (.keep [(9, _), (8, _), (0, _), (1, _), (6, _), (7, _)] ⟨rfl, rfl, rfl, rfl, rfl, rfl, trivial⟩ ?_)))
            unfold okP at hok
            refine .loop (S := Nat × World) (fun s => [(0, i64 (n : Int)), (1, .slice (some ⟨b1, o1, none⟩) l.length cap), (6, .slice (some ⟨w.heap.size, 0, none⟩) n n), (7, i64 (i : Nat)), (8, .pointer (some ⟨wi.heap.size, 0, none⟩)), (9, i64 s.1)]) (fun s => s.2) (fun s => l[i].fr ≤ (s.1 : Int) ∧ (s.1 : Int) ≤ l[i].fr + l[i].ct ∧ Blk s.2 w.heap.size 4 (rowB n (markB (l.take i) l[i] (s.1 : Int))) ∧ (∀ x : Nat, l[i].fr ≤ (x : Int) → (x : Int) < (s.1 : Int) → covB (l.take i) x = false) ∧ Ext (· = w.heap.size) w7 s.2) (fun s => (l[i].fr + l[i].ct).toNat - s.1) (l[i].fr.toNat, w7) ⟨rfl, rfl, rfl, rfl, rfl, rfl, trivial⟩ rfl ⟨by show l[i].fr ≤ ((l[i].fr.toNat : Nat) : Int); omega, by show ((l[i].fr.toNat : Nat) : Int) ≤ _; omega, by rw [show rowB n (markB (l.take i) l[i] ((l[i].fr.toNat : Nat) : Int)) = rowB n (covB (l.take i)) from rowB_congr (fun x _ => by rw [Int.toNat_of_nonneg (by omega), mark_none])]; exact Bt7, fun x h1 h2 => by have h2 : (x : Int) < ((l[i].fr.toNat : Nat) : Int) := h2; omega, .refl _⟩ ?_
            rintro ⟨k, wj⟩ J2 ⟨hk1, hk2, Bk, hun, hY⟩ again2
            simp only at hk1 hk2 Bk hun hY
            change G _ [(0, i64 (n : Int)), (1, .slice (some ⟨b1, o1, none⟩) l.length cap), (6, .slice (some ⟨w.heap.size, 0, none⟩) n n), (7, i64 (i : Nat)), (8, .pointer (some ⟨wi.heap.size, 0, none⟩)), (9, i64 k)] _ _ wj
            refine .seq (.seq (.region ?_))
            refine .p rfl rfl (.mv rfl) ?_
            refine .p rfl rfl (.fieldAddr rfl rfl rfl rfl) ?_
            refine .p rfl rfl (.load rfl rfl rfl ((B7.ext hY hne).cell 0)) ?_
            refine .p rfl rfl (.fieldAddr rfl rfl rfl rfl) ?_
            refine .p rfl rfl (.load rfl rfl rfl ((B7.ext hY hne).cell 1)) ?_
            refine .p rfl rfl (.add rfl rfl (by omega)) ?_
            refine .p rfl rfl (.lt rfl rfl) ?_
            refine .nil (.code (.keep [(53, _), (0, _), (1, _), (6, _), (7, _), (8, _), (9, _)] ⟨rfl, rfl, rfl, rfl, rfl, rfl, rfl, trivial⟩ ?_))
            refine .condD rfl (fun c53 => ?_) (fun c53 => ?_)
            · have hkn : k < n := by omega
              refine .skip (.code (.seq (.block (.seq (.seq (.keep [(0, _), (1, _), (6, _), (7, _), (8, _), (9, _)] ⟨rfl, rfl, rfl, rfl, rfl, rfl, trivial⟩ (.region ?_)))))))
              refine .p rfl rfl (.mv rfl) ?_
              refine .p rfl rfl (.mv rfl) ?_
              refine .p rfl rfl (.indexAddr1 rfl rfl rfl rfl (by omega)) ?_
              refine .p rfl rfl (.cast (.load rfl rfl rfl (by rw [Int.toNat_natCast, Nat.zero_add]; exact (Bk.cell _).trans (rowB_get _ hkn))) (show _ = Value.bool (covB (l.take i) k) by rw [mark_self])) ?_
              refine .nil (.code (.keep [(59, _), (0, _), (1, _), (6, _), (7, _), (8, _), (9, _)] ⟨rfl, rfl, rfl, rfl, rfl, rfl, rfl, trivial⟩ ?_))
              refine .cond rfl (fun c59 => ?_) (fun c59 => ?_)
              · have hno : ¬ mayP (n : Int) l := not_may_at hi c59 ⟨hk1, by omega⟩
                refine .seq (.keep [] trivial (.region ?_))
                refine .p rfl rfl (.as rfl) ?_
                refine .p rfl rfl (.as rfl) ?_
                refine .nil (.code ?_)
                refine .ret _ rfl ?_
                rw [decide_eq_false hno]
                exact ⟨_, rfl, fun hm => absurd hm hno, (hX.trans X7).then hY (fun k he _ => by have he : k = w.heap.size := he; omega)⟩
              · refine .skip (.code (.keep [(0, _), (1, _), (6, _), (7, _), (8, _), (9, _)] ⟨rfl, rfl, rfl, rfl, rfl, rfl, trivial⟩ (.region ?_)))
                refine .p rfl rfl (.mv rfl) ?_
                refine .p rfl rfl (.mv rfl) ?_
                refine .p rfl rfl (.indexAddr1 rfl rfl rfl rfl (by omega)) ?_
                refine .s rfl (.store rfl rfl rfl rfl rfl Bk (by rw [Int.toNat_natCast, Nat.zero_add, rowB_len]; exact hkn)) ?_
                intro w8 P8
                have B8 := P8.blk
                rw [Int.toNat_natCast, Nat.zero_add, mark_step hk1 hkn] at B8
                refine .nil (.blk (.code (.keep [(0, _), (1, _), (6, _), (7, _), (8, _), (9, _)] ⟨rfl, rfl, rfl, rfl, rfl, rfl, trivial⟩ (.region ?_))))
                refine .p rfl rfl (.mv rfl) ?_
                refine .p rfl rfl (.add rfl rfl (by omega)) ?_
                refine .p rfl rfl (.as rfl) ?_
                refine .nil ?_
                refine (again2 (k + 1, w8) ⟨by show l[i].fr ≤ ((k + 1 : Nat) : Int); omega, by show ((k + 1 : Nat) : Int) ≤ _; omega, B8, fun x h1 h2 => ?_, hY.trans P8.ext⟩ (by show _ - (k + 1) < _ - k; omega)).of ⟨rfl, rfl, rfl, rfl, rfl, rfl, trivial⟩
                have h2 : (x : Int) < ((k + 1 : Nat) : Int) := h2
                by_cases hxk : x = k
                · subst hxk; exact c59
                · exact hun x h1 (by omega)
            · refine .exit rfl (.blk (.code (.keep [(0, _), (1, _), (6, _), (7, _)] ⟨rfl, rfl, rfl, rfl, trivial⟩ (.region ?_))))
              refine .p rfl rfl (.mv rfl) ?_
              refine .p rfl rfl (.add rfl rfl (by omega)) ?_
              refine .p rfl rfl (.as rfl) ?_
              refine .nil ?_
              refine (again (i + 1, wj) ⟨by show i + 1 ≤ _; omega, ?_, may_more hi hmay hok (fun x h1 h2 => hun x h1 (by omega)), (hX.trans X7).then hY (fun k he _ => by have he : k = w.heap.size := he; omega)⟩ (by show _ - (i + 1) < _ - i; omega)).of ⟨rfl, rfl, rfl, rfl, trivial⟩
              rw [show rowB n (covB (l.take (i + 1))) = rowB n (markB (l.take i) l[i] (k : Int)) from rowB_congr (fun x _ => by rw [cov_more hi, show l[i].fr + l[i].ct = (k : Int) by omega])]
              exact Bk
  · obtain rfl : i = l.length := by omega
    rw [List.take_length] at Bt hmay
    refine .exit rfl (.code (.seq (.keep [(6, _)] ⟨rfl, trivial⟩ (.region ?_))))
    refine .p rfl rfl (.mv rfl) ?_
    refine .p rfl rfl (.as rfl) ?_
    refine .p rfl rfl (.as rfl) ?_
    refine .nil (.code ?_)
    refine .ret _ rfl ?_
    rw [decide_eq_true hmay]
    exact ⟨_, rfl, fun _ => ⟨rfl, Bt⟩, hX⟩
theorem RefCheck_fn {w : World} {v : Value} {l : List Piece} {count : Int} (h : (Sl tPiece).rep All w v l) : Fn Tryz.prog 114 [i64 count, v] w (fun r w2 => r = i64 (checkR count l) ∧ Ext (fun _ => False) w w2) := by
  obtain ⟨a, cap, rfl, hcap⟩ := Sl.val h
  refine Fn.enter (fun w => Tryz.call114 _ w) Tryz.func114 rfl ?_
  refine .seq (.region ?_)
  refine .p rfl rfl (.as rfl) ?_
  refine .nil (.code (.seq (.seq (.keep [(0, _), (1, _)] ⟨rfl, rfl, trivial⟩ (.region ?_)))))
  refine .p rfl rfl (.mv rfl) ?_
  refine .p rfl rfl (.lt rfl rfl) ?_
  refine .p rfl rfl (.mv rfl) ?_
  refine .caseD 9 rfl (fun c9 => ?_) (fun c9 => ?_)
  · refine .skip rfl rfl ?_
    refine .skip rfl rfl ?_
    refine .p rfl rfl (.pickT rfl rfl) ?_
    refine .nil (.code (.keep [(12, _), (0, _), (1, _)] ⟨rfl, rfl, rfl, trivial⟩ (.condT rfl (.seq (.keep [] trivial (.region ?_))))))
    refine .p rfl rfl (.as rfl) ?_
    refine .nil (.code ?_)
    refine .ret _ rfl ?_
    have e : checkR count l = 2 := by unfold checkR; rw [if_pos (by omega)]
    rw [e]
    exact ⟨rfl, .refl _⟩
  · refine .p rfl rfl (.mv rfl) ?_
    refine .p rfl rfl (.gt rfl rfl) ?_
    refine .p rfl rfl (.pickF rfl rfl) ?_
    refine .nil (.code (.keep [(12, _), (0, _), (1, _)] ⟨rfl, rfl, rfl, trivial⟩ ?_))
    refine .condD rfl (fun c12 => ?_) (fun c12 => ?_)
    · refine .seq (.keep [] trivial (.region ?_))
      refine .p rfl rfl (.as rfl) ?_
      refine .nil (.code ?_)
      refine .ret _ rfl ?_
      have e : checkR count l = 2 := by unfold checkR; rw [if_pos (by omega)]
      rw [e]
      exact ⟨rfl, .refl _⟩
    · refine .skip (.code (.seq (.seq (.keep [(0, _), (1, _)] ⟨rfl, rfl, trivial⟩ (.region ?_)))))
      refine .p rfl rfl (.mv rfl) ?_
      refine .p rfl rfl (.len rfl rfl) ?_
      refine .p rfl rfl (.gt rfl rfl) ?_
      refine .nil (.code (.keep [(15, _), (0, _), (1, _)] ⟨rfl, rfl, rfl, trivial⟩ ?_))
      refine .condD rfl (fun c15 => ?_) (fun c15 => ?_)
      · refine .seq (.keep [] trivial (.region ?_))
        refine .p rfl rfl (.as rfl) ?_
        refine .nil (.code ?_)
        refine .ret _ rfl ?_
        have e : checkR count l = 4 := by unfold checkR; rw [if_neg (by omega), if_pos (by omega)]
        rw [e]
        exact ⟨rfl, .refl _⟩
      · refine .skip (.code (.seq (.keep [(0, _), (1, _)] ⟨rfl, rfl, trivial⟩ (.region ?_))))
        refine .p rfl rfl (.mv rfl) ?_
        refine .p rfl rfl (.mv rfl) ?_
        obtain ⟨n0, rfl⟩ := Int.eq_ofNat_of_zero_le (show 0 ≤ count by omega)
        refine .call (first := []) (captured := []) rfl rfl rfl rfl (taken_fn (n := n0) h (by omega)) ?_
        rintro _ w19 ⟨v19, rfl, hB19, X19⟩
        refine .p rfl rfl (.mv rfl) ?_
        refine .p rfl rfl (.extract rfl rfl) ?_
        refine .p rfl rfl (.extract rfl rfl) ?_
        refine .p rfl rfl (.as rfl) ?_
        refine .p rfl rfl (.as rfl) ?_
        refine .nil (.code (.seq (.seq (.keep [(6, _)] ⟨rfl, trivial⟩ (.region ?_)))))
        refine .p rfl rfl (.mv rfl) ?_
        refine .p rfl rfl (.notD rfl) ?_
        refine .nil (.code (.keep [(23, _)] ⟨rfl, trivial⟩ ?_))
        refine .condD rfl (fun c23 => ?_) (fun c23 => ?_)
        · refine .seq (.keep [] trivial (.region ?_))
          refine .p rfl rfl (.as rfl) ?_
          refine .nil (.code ?_)
          refine .ret _ rfl ?_
          rw [check_8 (by omega) (by omega) (by simpa using c23)]
          exact ⟨rfl, X19⟩
        · refine .skip (.code (.seq (.keep [] trivial (.region ?_))))
          refine .p rfl rfl (.as rfl) ?_
          refine .nil (.code ?_)
          refine .ret _ rfl ?_
          rw [check_0 (by omega) (by omega) (by simpa using c23)]
          exact ⟨rfl, X19⟩
end Go.Proofs.YtpfehnopghffjaaGreatDoor
namespace Go.Proofs.YtpfehnopghffjaaGreatDoor
open Go room
namespace room
end room
theorem RefMany_fn {w : World} {v : Value} {l : List Piece} (h : (Sl tPiece).rep All w v l) : Fn Tryz.prog 78 [v] w (fun r w2 => r = .tuple #[i64 (if checkR 4096 l = 0 then totalF l else 0), i64 (checkR 4096 l)] ∧ Ext (fun _ => False) w w2) := by
  obtain ⟨a, cap, rfl, hcap⟩ := Sl.val h
  refine Fn.enter (fun w => Tryz.call78 _ w) Tryz.func78 rfl ?_
  refine .seq (.region ?_)
  refine .p rfl rfl (.as rfl) ?_
  refine .p rfl rfl (.as rfl) ?_
  refine .nil (.code (.seq (.keep [(0, _)] ⟨rfl, trivial⟩ (.region ?_))))
  refine .p rfl rfl (.mv rfl) ?_
  refine .call (first := []) (captured := []) rfl rfl rfl rfl (RefCheck_fn h) ?_
  rintro _ w8 ⟨rfl, X8⟩
  refine .p rfl rfl (.as rfl) ?_
  refine .nil (.code (.seq (.seq (.keep [(4, _), (0, _)] ⟨rfl, rfl, trivial⟩ (.region ?_)))))
  refine .p rfl rfl (.mv rfl) ?_
  refine .p rfl rfl (.ne rfl rfl) ?_
  refine .nil (.code (.keep [(10, _), (4, _), (0, _)] ⟨rfl, rfl, rfl, trivial⟩ ?_))
  refine .condD rfl (fun c10 => ?_) (fun c10 => ?_)
  · refine .seq (.keep [(4, _)] ⟨rfl, trivial⟩ (.region ?_))
    refine .p rfl rfl (.mv rfl) ?_
    refine .p rfl rfl (.as rfl) ?_
    refine .p rfl rfl (.as rfl) ?_
    refine .nil (.code ?_)
    refine .ret _ rfl ?_
    rw [if_neg c10]
    exact ⟨rfl, X8⟩
  · have hz : checkR 4096 l = 0 := Decidable.not_not.1 c10
    obtain ⟨_, _, hll, hmay⟩ := check_ok hz
    have hpos : ∀ p ∈ l, 0 ≤ p.ct ∧ p.ct ≤ 4096 := fun p hp => by have := hmay.1 p hp; unfold okP at this; omega
    refine .skip (.code (.seq (.keep [(0, _)] ⟨rfl, trivial⟩ (.region ?_))))
    refine .p rfl rfl (.as rfl) ?_
    refine .nil (.code (.seq (.seq (.region ?_))))
    refine .p rfl rfl (.as rfl) ?_
    refine .nil (.code (.block ?_))
    refine .loop (S := Nat) (fun s => [(0, .slice a l.length cap), (5, i64 (totalF (l.take s))), (6, i64 s)]) (fun s => w8) (fun s => s ≤ l.length) (fun s => l.length - s) 0 ⟨rfl, rfl, rfl, trivial⟩ rfl (Nat.zero_le _) ?_
    intro i J hi' again
    refine .seq (.seq (.region ?_))
    refine .p rfl rfl (.mv rfl) ?_
    refine .p rfl rfl (.mv rfl) ?_
    refine .p rfl rfl (.len rfl rfl) ?_
    refine .p rfl rfl (.lt rfl rfl) ?_
    refine .nil (.code (.keep [(15, _), (0, _), (5, _), (6, _)] ⟨rfl, rfl, rfl, rfl, trivial⟩ ?_))
    refine .condD rfl (fun c15 => ?_) (fun c15 => ?_)
    · have hi : i < l.length := by omega
      obtain ⟨b1, o1, q1, ue, e, _, hcs, hre⟩ := Sl.at h (List.getElem?_eq_getElem hi)
      cases e
      obtain ⟨rfl, hr1, hr2⟩ := tPiece.val hre
      have ht := total_bd (M := 4096) (by decide) (l := l.take i) (fun p hp => hpos p (List.mem_of_mem_take hp))
      have hl0 := hpos l[i] (List.getElem_mem hi)
      have hle : (l.take i).length ≤ l.length := by rw [List.length_take]; omega
      refine .skip (.code (.seq (.block (.keep [(0, _), (5, _), (6, _)] ⟨rfl, rfl, rfl, trivial⟩ (.region ?_)))))
      refine .p rfl rfl (.mv rfl) ?_
      refine .p rfl rfl (.mv rfl) ?_
      refine .p rfl rfl (.mv rfl) ?_
      refine .p rfl rfl (.indexAddr (s := 2) rfl rfl rfl rfl (by omega)) ?_
      refine .p rfl rfl (.fieldAddr rfl rfl rfl rfl) ?_
      refine .p rfl rfl (.load rfl rfl rfl ((hcs.ext X8 (fun x => x)) 1 _ rfl)) ?_
      refine .p rfl rfl (.cast (.add rfl rfl (by omega)) (show i64 (totalF (l.take i) + l[i].ct) = i64 (totalF (l.take (i + 1))) by rw [total_take hi])) ?_
      refine .p rfl rfl (.as rfl) ?_
      refine .nil (.blk (.code (.keep [(5, _), (0, _), (6, _)] ⟨rfl, rfl, rfl, trivial⟩ (.region ?_))))
      refine .p rfl rfl (.mv rfl) ?_
      refine .p rfl rfl (.add rfl rfl (by omega)) ?_
      refine .p rfl rfl (.as rfl) ?_
      refine .nil ?_
      exact (again (i + 1) (by show i + 1 ≤ _; omega) (by show _ - (i + 1) < _ - i; omega)).of ⟨rfl, rfl, rfl, trivial⟩
    · obtain rfl : i = l.length := by omega
      rw [List.take_length]
      refine .exit rfl (.code (.seq (.keep [(5, _)] ⟨rfl, trivial⟩ (.region ?_))))
      refine .p rfl rfl (.mv rfl) ?_
      refine .p rfl rfl (.as rfl) ?_
      refine .p rfl rfl (.as rfl) ?_
      refine .nil (.code ?_)
      refine .ret _ rfl ?_
      rw [if_pos hz, hz]
      exact ⟨rfl, X8⟩
theorem RefSame_fn {w : World} {v u : Value} {l m : List Piece} (hl : (Sl tPiece).rep All w v l) (hm : (Sl tPiece).rep All w u m) : Fn Tryz.prog 64 [v, u] w (fun r w2 => r = .bool (decide (l = m)) ∧ Ext (fun _ => False) w w2) := by
  obtain ⟨a, cap, rfl, hcap⟩ := Sl.val hl
  obtain ⟨a2, cap2, rfl, hcap2⟩ := Sl.val hm
  have hlim := Sl.lim hl
  have hlim2 := Sl.lim hm
  simp only [Lim] at hlim hlim2
  refine Fn.enter (fun w => Tryz.call64 _ w) Tryz.func64 rfl ?_
  refine .seq (.region ?_)
  refine .p rfl rfl (.as rfl) ?_
  refine .nil (.code (.seq (.seq (.keep [(0, _), (1, _)] ⟨rfl, rfl, trivial⟩ (.region ?_)))))
  refine .p rfl rfl (.mv rfl) ?_
  refine .p rfl rfl (.len rfl rfl) ?_
  refine .p rfl rfl (.mv rfl) ?_
  refine .p rfl rfl (.len rfl rfl) ?_
  refine .p rfl rfl (.ne rfl rfl) ?_
  refine .nil (.code (.keep [(10, _), (0, _), (1, _)] ⟨rfl, rfl, rfl, trivial⟩ ?_))
  refine .condD rfl (fun c10 => ?_) (fun c10 => ?_)
  · refine .seq (.keep [] trivial (.region ?_))
    refine .p rfl rfl (.as rfl) ?_
    refine .nil (.code ?_)
    refine .ret _ rfl ?_
    exact ⟨by rw [decide_eq_false (fun h => by rw [h] at c10; exact c10 rfl)]; rfl, .refl _⟩
  · refine .skip (.code (.seq (.seq (.keep [(0, _), (1, _)] ⟨rfl, rfl, trivial⟩ (.region ?_)))))
    refine .p rfl rfl (.as rfl) ?_
    refine .nil (.code (.block ?_))
    have hlen : l.length = m.length := by omega
    refine .loop (S := Nat) (fun s => [(0, .slice a l.length cap), (1, .slice a2 m.length cap2), (5, i64 s)]) (fun s => w) (fun s => s ≤ l.length ∧ l.take s = m.take s) (fun s => l.length - s) 0 ⟨rfl, rfl, rfl, trivial⟩ rfl ⟨Nat.zero_le _, rfl⟩ ?_
    rintro i J ⟨hi', htk⟩ again
    refine .seq (.seq (.region ?_))
    refine .p rfl rfl (.mv rfl) ?_
    refine .p rfl rfl (.mv rfl) ?_
    refine .p rfl rfl (.len rfl rfl) ?_
    refine .p rfl rfl (.lt rfl rfl) ?_
    refine .nil (.code (.keep [(14, _), (0, _), (1, _), (5, _)] ⟨rfl, rfl, rfl, rfl, trivial⟩ ?_))
    refine .condD rfl (fun c14 => ?_) (fun c14 => ?_)
    · have hi : i < l.length := by omega
      have him : i < m.length := by omega
      obtain ⟨b0, o0, c0, ue, e, _, hcs, hre⟩ := Sl.at hl (List.getElem?_eq_getElem hi)
      cases e
      obtain ⟨rfl, h1, h2⟩ := tPiece.val hre
      obtain ⟨b1, o1, c1, ue1, e1, _, hcm, hrm⟩ := Sl.at hm (List.getElem?_eq_getElem him)
      cases e1
      obtain ⟨rfl, g1, g2⟩ := tPiece.val hrm
      refine .skip (.code (.seq (.block (.seq (.keep [(0, _), (1, _), (5, _)] ⟨rfl, rfl, rfl, trivial⟩ (.draws (by kernel_rfl) (by kernel_rfl) ?_))))))
      refine .p rfl rfl (.mv rfl) ?_
      refine .p rfl rfl (.mv rfl) ?_
      refine .p rfl rfl (.indexAddr (s := 2) rfl rfl rfl rfl (by omega)) ?_
      refine .p rfl rfl (.loadA (n := 2) rfl rfl rfl rfl rfl hcs) ?_
      refine .p rfl rfl (.mv rfl) ?_
      refine .p rfl rfl (.mv rfl) ?_
      refine .p rfl rfl (.indexAddr (s := 2) rfl rfl rfl rfl (by omega)) ?_
      refine .p rfl rfl (.loadA (n := 2) rfl rfl rfl rfl rfl hcm) ?_
      refine .p rfl rfl (.neA (xs := [_, _]) (ys := [_, _]) rfl rfl (by kernel_rfl) (piece_eq l[i] m[i])) ?_
      refine .nil (.code (.keep [(25, _), (0, _), (1, _), (5, _)] ⟨rfl, rfl, rfl, rfl, trivial⟩ ?_))
      refine .cond rfl (fun c25 => ?_) (fun c25 => ?_)
      · refine .seq (.keep [] trivial (.region ?_))
        refine .p rfl rfl (.as rfl) ?_
        refine .nil (.code ?_)
        refine .ret _ rfl ?_
        exact ⟨by rw [decide_eq_false (fun h => by subst h; simp at c25)]; rfl, .refl _⟩
      · refine .skip (.blk (.code (.keep [(0, _), (1, _), (5, _)] ⟨rfl, rfl, rfl, trivial⟩ (.region ?_))))
        refine .p rfl rfl (.mv rfl) ?_
        refine .p rfl rfl (.add rfl rfl (by omega)) ?_
        refine .p rfl rfl (.as rfl) ?_
        refine .nil ?_
        exact (again (i + 1) ⟨by show i + 1 ≤ _; omega, by show l.take (i + 1) = m.take (i + 1); rw [List.take_succ_eq_append_getElem hi, List.take_succ_eq_append_getElem him, htk, show l[i] = m[i] by simpa using c25]⟩ (by show _ - (i + 1) < _ - i; omega)).of ⟨rfl, rfl, rfl, trivial⟩
    · refine .exit rfl (.code (.seq (.keep [] trivial (.region ?_))))
      refine .p rfl rfl (.as rfl) ?_
      refine .nil (.code ?_)
      refine .ret _ rfl ?_
      obtain rfl : i = l.length := by omega
      exact ⟨by rw [decide_eq_true (by rw [List.take_length, hlen, List.take_length] at htk; exact htk)]; rfl, .refl _⟩
theorem RefSameT_fn {w : World} {v u : Value} {l : List Piece} (hl : (Sl tPiece).rep All w v l) (hm : (Sl tPiece).rep All w u l) : Fn Tryz.prog 64 [v, u] w (fun r w2 => r = .bool true ∧ Ext (fun _ => False) w w2) :=
  (RefSame_fn hl hm).mono (fun r w2 h => ⟨by rw [h.1, decide_eq_true rfl], h.2⟩)
end Go.Proofs.YtpfehnopghffjaaGreatDoor
namespace Go.Proofs.YtpfehnopghffjaaGreatDoor
open Go
theorem add128 (m : Nat) : UInt8.ofNat ((m : Int) % 128).toNat + 128 = UInt8.ofNat (m % 128 + 128) := by
  have h : ((m : Int) % 128).toNat = m % 128 := by omega
  rw [h, ← UInt8.toNat_inj]
  simp
theorem RefSmall_fn {w : World} {n : Nat} (hn : n < 18446744073709551616) : Fn Tryz.prog 115 [.int .u64 n] w (fun r w2 => Gr w2 r (smallF n) w.heap.size ∧ Ext (fun _ => False) w w2) := by
  refine Fn.enter (fun w => Tryz.call115 _ w) Tryz.func115 rfl ?_
  refine .seq (.region ?_)
  refine .p rfl rfl (.as rfl) ?_
  refine .nil (.code (.seq (.keep [(0, _)] ⟨rfl, trivial⟩ (.region ?_))))
  refine .p rfl rfl (.as rfl) ?_
  refine .nil (.code (.seq (.block ?_)))
  refine .loop (S := Nat × Nat × Bs × Value × World) (fun s => [(0, .int .u64 (s.2.1 : Nat)), (3, s.2.2.2.1)]) (fun s => s.2.2.2.2) (fun s => 1 ≤ s.1 ∧ s.1 ≤ 10 ∧ s.2.1 < 18446744073709551616 ∧ s.2.1 < 128 ^ s.1 ∧ smallF n = s.2.2.1 ++ smallK s.1 s.2.1 ∧ s.2.2.1.length ≤ 10 - s.1 ∧ Gr s.2.2.2.2 s.2.2.2.1 s.2.2.1 w.heap.size ∧ Ext (fun _ => False) w s.2.2.2.2) (fun s => s.1) (10, n, [], .slice none 0 0, w) ⟨rfl, rfl, trivial⟩ rfl ⟨(by decide : 1 ≤ 10), (by decide : 10 ≤ 10), hn, Nat.lt_of_lt_of_le hn (by decide : 18446744073709551616 ≤ 128 ^ 10), rfl, (by decide : 0 ≤ 10 - 10), OwnO.nil, .refl _⟩ ?_
  rintro ⟨f, m, acc, v, wi⟩ J ⟨h1, h10, hm64, hm, hs, hl, hG, hX⟩ again
  simp only at h1 h10 hm64 hm hs hl hG hX
  have zi : w.heap.size ≤ wi.heap.size := hX.size
  change G _ [(0, .int .u64 (m : Nat)), (3, v)] _ _ wi
  refine .seq (.seq (.region ?_))
  refine .p rfl rfl (.mv rfl) ?_
  refine .p rfl rfl (.ge rfl rfl) ?_
  refine .nil (.code (.keep [(5, _), (0, _), (3, _)] ⟨rfl, rfl, rfl, trivial⟩ ?_))
  refine .condD rfl (fun c5 => ?_) (fun c5 => ?_)
  · obtain ⟨f, rfl⟩ : ∃ f', f = f' + 1 := ⟨f - 1, by omega⟩
    have hle := smallK_length (f + 1) m
    have hsp : smallK (f + 1) m = UInt8.ofNat (m % 128 + 128) :: smallK f (m / 128) := by rw [smallK, if_neg (by omega)]
    refine .skip (.code (.block (.seq (.keep [(0, _), (3, _)] ⟨rfl, rfl, trivial⟩ (.region ?_)))))
    refine .p rfl rfl (.mv rfl) ?_
    refine .p rfl rfl (.mv rfl) ?_
    refine .p rfl rfl (.rem rfl rfl (by omega)) ?_
    refine .p rfl rfl (.convB rfl rfl rfl (by omega)) ?_
    refine .p rfl rfl (.cast (.add8 (b := 128) rfl rfl) (show _ = u8 (UInt8.ofNat (m % 128 + 128)) by rw [add128])) ?_
    refine .v rfl rfl (.lits rfl rfl (fun _ => by kernel_rfl)) ?_
    rintro _ w12 ⟨rfl, N12⟩
    have z12 : w12.heap.size = wi.heap.size + 1 := N12.size
    refine .v rfl rfl (.appendLo (t := tByte) (eb := 1) rfl (hG.ext0 N12.ext) (fun k hk => by have hk : w12.heap.size ≤ k := hk; show w.heap.size ≤ k; omega) rfl (one_holds N12) rfl rfl rfl rfl rfl rfl rfl (by simp; omega) (by simp [Lim]; omega) (fun _ h _ => h.elim)) ?_
    rintro r13 w13 ⟨G13, Y13⟩
    have z13 : w12.heap.size ≤ w13.heap.size := Y13.size
    refine .p rfl rfl (.as rfl) ?_
    refine .nil (.code (.keep [(3, _), (0, _)] ⟨rfl, rfl, trivial⟩ (.region ?_)))
    refine .p rfl rfl (.mv rfl) ?_
    refine .p rfl rfl (.cast (.quoU rfl rfl (by omega)) (show _ = Value.int .u64 ((m / 128 : Nat) : Int) by simp)) ?_
    refine .p rfl rfl (.as rfl) ?_
    refine .nil (.blk ?_)
    have hf1 : 1 ≤ f := by
      rcases Nat.eq_zero_or_pos f with rfl | h
      · have : m < 128 := by simpa using hm
        omega
      · exact h
    exact (again (f, m / 128, acc ++ [UInt8.ofNat (m % 128 + 128)], r13, w13) ⟨hf1, by show f ≤ 10; omega, by show m / 128 < _; omega, by show m / 128 < 128 ^ f; rw [Nat.pow_succ] at hm; omega, by show smallF n = (acc ++ [_]) ++ smallK f (m / 128); rw [hs, hsp, List.append_assoc]; rfl, by show (acc ++ [_]).length ≤ 10 - f; simp; omega, G13, (hX.trans N12.ext).then Y13 (fun k hk _ => hk)⟩ (by show f < f + 1; omega)).of ⟨rfl, rfl, trivial⟩
  · obtain ⟨f, rfl⟩ : ∃ f', f = f' + 1 := ⟨f - 1, by omega⟩
    have hsp : smallK (f + 1) m = [UInt8.ofNat m] := by rw [smallK, if_pos (by omega)]
    refine .exit rfl (.code (.seq (.keep [(0, _), (3, _)] ⟨rfl, rfl, trivial⟩ (.region ?_))))
    refine .p rfl rfl (.mv rfl) ?_
    refine .p rfl rfl (.mv rfl) ?_
    refine .p rfl rfl (.cast (.convB rfl rfl rfl (by omega)) (show _ = u8 (UInt8.ofNat m) by rw [Int.toNat_natCast])) ?_
    refine .v rfl rfl (.lits rfl rfl (fun _ => by kernel_rfl)) ?_
    rintro _ w17 ⟨rfl, N17⟩
    have z17 : w17.heap.size = wi.heap.size + 1 := N17.size
    refine .v rfl rfl (.appendLo (t := tByte) (eb := 1) rfl (hG.ext0 N17.ext) (fun k hk => by have hk : w17.heap.size ≤ k := hk; show w.heap.size ≤ k; omega) rfl (one_holds N17) rfl rfl rfl rfl rfl rfl rfl (by simp; omega) (by simp [Lim]; omega) (fun _ h _ => h.elim)) ?_
    rintro r18 w18 ⟨G18, Y18⟩
    have z18 : w17.heap.size ≤ w18.heap.size := Y18.size
    refine .p rfl rfl (.as rfl) ?_
    refine .nil (.code ?_)
    refine .ret _ rfl ?_
    exact ⟨by rw [hs, hsp]; exact G18, (hX.trans N17.ext).then Y18 (fun k hk _ => hk)⟩
theorem RefText_fn {w : World} {l : Bs} (hl : l.length < Lim) (hl2 : l.length + 10 < Lim) : Fn Tryz.prog 53 [str l] w (fun r w2 => Gr w2 r (textF l) w.heap.size ∧ Ext (fun _ => False) w w2) := by
  simp only [Lim] at hl
  have hsl := smallF_length l.length
  refine Fn.enter (fun w => Tryz.call53 _ w) Tryz.func53 rfl ?_
  refine .seq (.region ?_)
  refine .p rfl rfl (.as rfl) ?_
  refine .nil (.code (.seq (.keep [(0, _)] ⟨rfl, trivial⟩ (.region ?_))))
  refine .p rfl rfl (.mv rfl) ?_
  refine .p rfl rfl (.lenS rfl rfl) ?_
  refine .p rfl rfl (.convU rfl rfl rfl (by omega)) ?_
  refine .call (first := []) (captured := []) rfl rfl rfl rfl (RefSmall_fn (n := l.length) (by omega)) ?_
  rintro r6 w6 ⟨G6, X6⟩
  have z6 : w.heap.size ≤ w6.heap.size := X6.size
  refine .p rfl rfl (.mv rfl) ?_
  refine .v rfl rfl (.appendSLo rfl G6 (fun k hk => by have hk : w6.heap.size ≤ k := hk; show w.heap.size ≤ k; omega) rfl rfl rfl rfl rfl rfl rfl rfl (by simp only [Lim] at hl2 ⊢; omega) (fun _ h _ => h.elim)) ?_
  rintro r8 w8 ⟨G8, Y8⟩
  refine .p rfl rfl (.as rfl) ?_
  refine .nil (.code ?_)
  refine .ret _ rfl ?_
  exact ⟨G8, X6.then Y8 (fun k hk _ => hk)⟩
end Go.Proofs.YtpfehnopghffjaaGreatDoor
namespace Go.Proofs.YtpfehnopghffjaaGreatDoor
open Go
theorem byteOf_mod (n i : Nat) : u8 (byteOf n i) = u8 (UInt8.ofNat (((n / 256 ^ i : Nat) : Int) % 256).toNat) := by
  have h1 : (((n / 256 ^ i : Nat) : Int) % 256).toNat = n / 256 ^ i % 256 := by omega
  rw [h1]
  have h2 : byteOf n i = UInt8.ofNat (n / 256 ^ i % 256) := by
    apply UInt8.toNat_inj.1
    rw [byteOf, Nat.pow_mul]
    simp
  rw [h2]
theorem div_succ (n i : Nat) : n / 256 ^ i / 256 = n / 256 ^ (i + 1) := by rw [Nat.div_div_eq_div_mul, Nat.pow_succ]
def hiTo (l : Bs) : Nat → Nat
  | 0 => 0
  | j + 1 => hiTo l j * 256 + (l.getD (7 - j) 0).toNat
theorem hiTo_lt (l : Bs) : ∀ j, hiTo l j < 256 ^ j
  | 0 => by simp [hiTo]
  | j + 1 => by
    have h := hiTo_lt l j
    have hb := (l.getD (7 - j) 0).toNat_lt
    rw [hiTo, Nat.pow_succ]
    omega
theorem hiTo_bd (l : Bs) {j : Nat} (h : j ≤ 8) : hiTo l j < 18446744073709551616 := Nat.lt_of_lt_of_le (hiTo_lt l j) (Nat.pow_le_pow_right (n := 256) (by decide) h)
theorem hiTo_8 (l : Bs) : hiTo l 8 = getTo l 8 := by
  simp only [hiTo, getTo, Nat.sub_zero, Nat.reduceSub, Nat.reduceMul, Nat.reducePow]
  omega
theorem RefPut_fn {w : World} {n : Nat} (hn : n < 18446744073709551616) : Fn Tryz.prog 54 [.int .u64 n] w (fun r w2 => tBytes.rep (fun k => w.heap.size ≤ k) w2 r (put8 n) ∧ Ext (fun _ => False) w w2) := by
  refine Fn.enter (fun w => Tryz.call54 _ w) Tryz.func54 rfl ?_
  refine .seq (.region ?_)
  refine .p rfl rfl (.as rfl) ?_
  refine .nil (.code (.seq (.keep [(0, _)] ⟨rfl, trivial⟩ (.region ?_))))
  refine .p rfl rfl (.as rfl) ?_
  refine .nil (.code (.seq (.seq (.region ?_))))
  refine .p rfl rfl (.as rfl) ?_
  refine .nil (.code (.block ?_))
  have h0 : (Value.int .u64 (n : Int)) = .int .u64 ((n / 256 ^ 0 : Nat) : Int) := by simp
  rw [h0]
  refine .loop (S := Nat × World × Value × Nat) (fun s => [(4, i64 s.1), (3, s.2.2.1), (0, .int .u64 (n / 256 ^ s.1 : Nat))]) (fun s => s.2.1) (fun s => s.1 ≤ 8 ∧ Own tByte (fun _ => False) 5 s.2.1 s.2.2.1 ((List.range s.1).map (byteOf n)) s.2.2.2 ∧ Ext (fun _ => False) w s.2.1 ∧ w.heap.size ≤ s.2.2.2) (fun s => 8 - s.1) (0, w, .slice none 0 0, w.heap.size) ⟨rfl, rfl, rfl, trivial⟩ rfl ⟨Nat.zero_le _, Own.nil, .refl _, Nat.le_refl _⟩ ?_
  rintro ⟨i, wi, v, b⟩ J ⟨hi, hO, hX, hb⟩ again
  simp only at hi hO hX hb
  change G _ [(4, i64 i), (3, v), (0, .int .u64 (n / 256 ^ i : Nat))] _ _ wi
  refine .seq (.seq (.region ?_))
  refine .p rfl rfl (.mv rfl) ?_
  refine .p rfl rfl (.lt rfl rfl) ?_
  refine .nil (.code (.keep [(6, _), (4, _), (3, _), (0, _)] ⟨rfl, rfl, rfl, rfl, trivial⟩ ?_))
  refine .condD rfl (fun c6 => ?_) (fun c6 => ?_)
  · have hq : ((n / 256 ^ i : Nat) : Int) ≤ 18446744073709551615 := by have h1 := Nat.le_trans (Nat.div_le_self n (256 ^ i)) (show n ≤ 18446744073709551615 by omega); exact Int.ofNat_le.2 h1
    refine .skip (.code (.seq (.block (.seq (.keep [(4, _), (3, _), (0, _)] ⟨rfl, rfl, rfl, trivial⟩ (.region ?_))))))
    refine .p rfl rfl (.mv rfl) ?_
    refine .p rfl rfl (.mv rfl) ?_
    refine .p rfl rfl (.rem rfl rfl ⟨Int.natCast_nonneg _, by decide⟩) ?_
    refine .p rfl rfl (.convB rfl rfl rfl (Int.emod_nonneg _ (by decide))) ?_
    refine .v rfl rfl (.lits rfl rfl (fun _ => by kernel_rfl)) ?_
    rintro _ w13 ⟨rfl, N13⟩
    refine .v rfl rfl (.append (t := tByte) (eb := 1) rfl (hO.ext0 N13.ext) rfl (.inr (New.holds (us := [u8 (UInt8.ofNat (((n / 256 ^ i : Nat) : Int) % 256).toNat)]) (xs := [byteOf n i]) N13 (by rw [← byteOf_mod]; exact each_u8 [byteOf n i]) rfl)) rfl rfl rfl rfl rfl rfl rfl (by simp; omega) (by simp [Lim]; omega) (fun _ h _ => h.elim)) ?_
    rintro v14 w14 ⟨b14, O14, X14, hb14⟩
    have O14 := O14.mono (Q' := fun _ => False) (fun _ h _ => h.1)
    have hX14 := (hX.trans N13.ext).then X14 (by rintro k rfl _; omega)
    refine .p rfl rfl (.as rfl) ?_
    refine .nil (.code (.keep [(3, _), (4, _), (0, _)] ⟨rfl, rfl, rfl, trivial⟩ (.region ?_)))
    refine .p rfl rfl (.mv rfl) ?_
    refine .p rfl rfl (.cast (.quoU rfl rfl ⟨Int.natCast_nonneg _, hq, by decide⟩) (by show Value.int .u64 _ = Value.int .u64 ((n / 256 ^ (i + 1) : Nat) : Int); rw [← div_succ]; rfl)) ?_
    refine .p rfl rfl (.as rfl) ?_
    refine .nil (.blk (.code (.keep [(0, _), (3, _), (4, _)] ⟨rfl, rfl, rfl, trivial⟩ (.region ?_))))
    refine .p rfl rfl (.mv rfl) ?_
    refine .p rfl rfl (.add rfl rfl (by omega)) ?_
    refine .p rfl rfl (.as rfl) ?_
    refine .nil ?_
    refine (again (i + 1, w14, v14, b14) ⟨by show i + 1 ≤ 8; omega, ?_, hX14, ?_⟩ (by show 8 - (i + 1) < 8 - i; omega)).of ⟨rfl, rfl, rfl, trivial⟩
    · show Own tByte _ _ w14 v14 _ b14
      rw [List.range_succ, List.map_append]
      exact O14
    · show w.heap.size ≤ b14
      have := (hX.trans N13.ext).size
      omega
  · refine .exit rfl (.code (.seq (.keep [(3, _)] ⟨rfl, trivial⟩ (.region ?_))))
    refine .p rfl rfl (.mv rfl) ?_
    refine .p rfl rfl (.as rfl) ?_
    refine .nil (.code ?_)
    refine .ret _ rfl ?_
    obtain rfl : i = 8 := by omega
    exact ⟨hO.rep hb (fun _ h _ => h.elim), hX⟩
end Go.Proofs.YtpfehnopghffjaaGreatDoor
