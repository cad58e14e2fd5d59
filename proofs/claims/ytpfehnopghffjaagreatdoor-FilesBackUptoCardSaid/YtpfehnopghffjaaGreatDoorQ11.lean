import Derived.Test.YtpfehnopghffjaaGreatDoorQ10
import Derived.Test.YtpfehnopghffjaaGreatDoorQ04
import Derived.Test.YtpfehnopghffjaaGreatDoorQ07
import Derived.Test.YtpfehnopghffjaaGreatDoorQ06
import Derived.Laws.StructEq
import Derived.Test.YtpfehnopghffjaaGreatDoorQ08
set_option linter.unusedVariables false
set_option linter.unusedSimpArgs false
set_option maxRecDepth 20000
namespace Go.Proofs.YtpfehnopghffjaaGreatDoor
open Go
namespace files
open room
theorem bl_cons (a b : UInt8) (x y : Bs) : Op.bytesLess (a :: x) (b :: y) = true ↔ a < b ∨ (a = b ∧ Op.bytesLess x y = true) := by simp [Op.bytesLess]
theorem bl_irr : ∀ a : Bs, ¬ Op.bytesLess a a = true
  | [] => by simp [Op.bytesLess]
  | a :: x => by
    rw [bl_cons]
    rintro (h | ⟨_, h⟩)
    · exact UInt8.lt_irrefl a h
    · exact bl_irr x h
theorem bl_trans : ∀ {a b c : Bs}, Op.bytesLess a b = true → Op.bytesLess b c = true → Op.bytesLess a c = true
  | [], [], _, h, _ => by simp [Op.bytesLess] at h
  | _ :: _, [], _, h, _ => by simp [Op.bytesLess] at h
  | [], _ :: _, [], _, h => by simp [Op.bytesLess] at h
  | [], _ :: _, _ :: _, _, _ => by simp [Op.bytesLess]
  | _ :: _, _ :: _, [], _, h => by simp [Op.bytesLess] at h
  | a :: x, b :: y, c :: z, h, k => by
    rw [bl_cons] at h k ⊢
    rcases h with h | ⟨rfl, h⟩
    · rcases k with k | ⟨rfl, k⟩
      · exact .inl (UInt8.lt_trans h k)
      · exact .inl h
    · rcases k with k | ⟨rfl, k⟩
      · exact .inl k
      · exact .inr ⟨rfl, bl_trans h k⟩
theorem bl_tri : ∀ a b : Bs, Op.bytesLess a b = true ∨ a = b ∨ Op.bytesLess b a = true
  | [], [] => .inr (.inl rfl)
  | [], _ :: _ => .inl (by simp [Op.bytesLess])
  | _ :: _, [] => .inr (.inr (by simp [Op.bytesLess]))
  | a :: x, b :: y => by
    rw [bl_cons, bl_cons]
    by_cases h1 : a < b
    · exact .inl (.inl h1)
    · by_cases h2 : b < a
      · exact .inr (.inr (.inl h2))
      · have e : a = b := UInt8.le_antisymm (UInt8.not_lt.1 h2) (UInt8.not_lt.1 h1)
        subst e
        rcases bl_tri x y with h | h | h
        · exact .inl (.inr ⟨rfl, h⟩)
        · exact .inr (.inl (by rw [h]))
        · exact .inr (.inr (.inr ⟨rfl, h⟩))
theorem sorted_ext {α : Type} {lt : α → α → Prop} (irr : ∀ a, ¬ lt a a) (tr : ∀ {a b c}, lt a b → lt b c → lt a c) : ∀ {l m : List α}, l.Pairwise lt → m.Pairwise lt → (∀ a, a ∈ l ↔ a ∈ m) → l = m
  | [], [], _, _, _ => rfl
  | [], b :: m, _, _, h => absurd ((h b).2 (by simp)) (by simp)
  | a :: l, [], _, _, h => absurd ((h a).1 (by simp)) (by simp)
  | a :: l, b :: m, hl, hm, h => by
    obtain ⟨hl1, hl2⟩ := List.pairwise_cons.1 hl
    obtain ⟨hm1, hm2⟩ := List.pairwise_cons.1 hm
    have e : a = b := by
      rcases List.mem_cons.1 ((h a).1 (by simp)) with e | h1
      · exact e
      · rcases List.mem_cons.1 ((h b).2 (by simp)) with e | h2
        · exact e.symm
        · exact absurd (tr (hm1 a h1) (hl1 b h2)) (irr b)
    subst e
    congr 1
    refine sorted_ext irr tr hl2 hm2 (fun x => ⟨fun hx => ?_, fun hx => ?_⟩)
    · rcases List.mem_cons.1 ((h x).1 (by simp [hx])) with e | h1
      · subst e; exact absurd (hl1 _ hx) (irr _)
      · exact h1
    · rcases List.mem_cons.1 ((h x).2 (by simp [hx])) with e | h1
      · subst e; exact absurd (hm1 _ hx) (irr _)
      · exact h1
def ltN (f g : File) : Prop := Op.bytesLess f.name g.name = true
def UpN (l : List File) : Prop := l.Pairwise ltN
theorem ltN_irr (f : File) : ¬ ltN f f := bl_irr _
theorem ltN_ne {a b : File} (h : ltN a b) : a.name ≠ b.name := fun e => by
  unfold ltN at h
  rw [e] at h
  exact bl_irr _ h
theorem ltN_tr {a b c : File} (h : ltN a b) (k : ltN b c) : ltN a c := bl_trans h k
theorem insF_mem {f g : File} : ∀ {l : List File}, g ∈ insF l f ↔ g = f ∨ g ∈ l
  | [] => by simp [insF]
  | x :: l => by
    rw [insF]
    split
    · simp
    · rw [List.mem_cons, insF_mem (l := l), List.mem_cons]
      constructor
      · rintro (h | h | h)
        · exact .inr (.inl h)
        · exact .inl h
        · exact .inr (.inr h)
      · rintro (h | h | h)
        · exact .inr (.inl h)
        · exact .inl h
        · exact .inr (.inr h)
theorem insF_up {f : File} : ∀ {l : List File}, UpN l → (∀ g ∈ l, g.name ≠ f.name) → UpN (insF l f)
  | [], _, _ => List.pairwise_singleton _ _
  | x :: l, h, hn => by
    obtain ⟨h1, h2⟩ := List.pairwise_cons.1 h
    rw [insF]
    split
    · rename_i hlt
      refine List.pairwise_cons.2 ⟨fun g hg => ?_, h⟩
      rcases List.mem_cons.1 hg with rfl | hg
      · exact hlt
      · exact bl_trans hlt (h1 g hg)
    · rename_i hlt
      refine List.pairwise_cons.2 ⟨fun g hg => ?_, insF_up h2 (fun g hg => hn g (by simp [hg]))⟩
      rcases insF_mem.1 hg with rfl | hg
      · rcases bl_tri x.name g.name with h3 | h3 | h3
        · exact h3
        · exact absurd h3 (hn x (by simp))
        · exact absurd h3 hlt
      · exact h1 g hg
theorem foldl_ins : ∀ {l k : List File}, UpN k → (k ++ l).Pairwise (fun f g => f.name ≠ g.name) → UpN (l.foldl insF k) ∧ ∀ g, g ∈ l.foldl insF k ↔ g ∈ k ∨ g ∈ l
  | [], k, hk, _ => ⟨hk, fun g => by simp⟩
  | f :: l, k, hk, hd => by
    obtain ⟨h1, h2, h3⟩ := List.pairwise_append.1 hd
    obtain ⟨h4, h5⟩ := List.pairwise_cons.1 h2
    have hn : ∀ g ∈ k, g.name ≠ f.name := fun g hg => h3 g hg f (by simp)
    have hd2 : (insF k f ++ l).Pairwise (fun f g => f.name ≠ g.name) := by
      refine List.pairwise_append.2 ⟨(insF_up hk hn).imp (fun h => ltN_ne h), h5, fun a ha b hb => ?_⟩
      rcases insF_mem.1 ha with rfl | ha
      · exact h4 b hb
      · exact h3 a ha b (by simp [hb])
    obtain ⟨i1, i2⟩ := foldl_ins (insF_up hk hn) hd2
    refine ⟨i1, fun g => ?_⟩
    rw [List.foldl_cons, i2 g, insF_mem, List.mem_cons]
    constructor
    · rintro ((h | h) | h)
      · exact .inr (.inl h)
      · exact .inl h
      · exact .inr (.inr h)
    · rintro (h | h | h)
      · exact .inl (.inr h)
      · exact .inl (.inl h)
      · exact .inr h
theorem sortN_ok {l : List File} (hd : l.Pairwise (fun f g => f.name ≠ g.name)) : UpN (sortN l) ∧ ∀ g, g ∈ sortN l ↔ g ∈ l := by
  obtain ⟨h1, h2⟩ := foldl_ins (l := l) (k := []) .nil hd
  exact ⟨h1, fun g => by rw [sortN, h2 g]; simp⟩
theorem sortN_eq {l s : List File} (hd : l.Pairwise (fun f g => f.name ≠ g.name)) (hs : UpN s) (hm : ∀ g, g ∈ s ↔ g ∈ l) : s = sortN l := by
  obtain ⟨h1, h2⟩ := sortN_ok hd
  exact sorted_ext ltN_irr (fun h k => ltN_tr h k) hs h1 (fun g => by rw [hm, h2])
theorem sortN_perm {l : List File} : (sortN l).Perm l := by
  have hi : ∀ (l : List File) (f : File), (insF l f).Perm (f :: l) := by
    intro l f
    induction l with
    | nil => exact .refl _
    | cons x l ih =>
      rw [insF]
      split
      · exact .refl _
      · exact (List.Perm.cons x ih).trans (List.Perm.swap f x l)
  have hf : ∀ (l k : List File), (l.foldl insF k).Perm (k ++ l) := by
    intro l
    induction l with
    | nil => intro k; rw [List.append_nil]; exact .refl _
    | cons f l ih =>
      intro k
      refine (ih (insF k f)).trans ?_
      refine ((hi k f).append_right l).trans ?_
      exact List.perm_middle.symm
  exact hf l []
theorem up_of {l : List File} (h : ∀ i (h : i < l.length), okAt l i h) : UpN l := by
  have key : ∀ n, n ≤ l.length → UpN (l.take n) := by
    intro n
    induction n with
    | zero => intro _; exact .nil
    | succ n ih =>
      intro hn
      have hi : n < l.length := by omega
      have ihn := ih (by omega)
      rw [List.take_succ_eq_append_getElem hi]
      refine List.pairwise_append.2 ⟨ihn, List.pairwise_singleton _ _, fun a ha b hb => ?_⟩
      rw [List.mem_singleton] at hb
      subst hb
      obtain ⟨j, hj, rfl⟩ := List.getElem_of_mem ha
      rw [List.length_take] at hj
      rw [List.getElem_take]
      have h0 : 0 < n := by omega
      have hlast := (h n hi).2.1 h0
      by_cases hjn : j = n - 1
      · subst hjn; exact hlast
      · have h2 := List.pairwise_iff_getElem.1 ihn j (n - 1) (by rw [List.length_take]; omega) (by rw [List.length_take]; omega) (by omega)
        rw [List.getElem_take, List.getElem_take] at h2
        exact bl_trans h2 hlast
  have := key l.length (Nat.le_refl _)
  rwa [List.take_length] at this
theorem up_ne {l : List File} (h : UpN l) : l.Pairwise (fun f g => f.name ≠ g.name) := h.imp (fun h => ltN_ne h)
theorem slot_may {d : Disk} {n : Nat} (h : slotOK d n) : writeF (slotF d n) = (slotB d n, 0) ∧ (slotF d n).fs.length ≤ 32 ∧ mayD (slotF d n) ∧ checkR d.count (allP (slotF d n).fs) = 0 := by
  have hw := write_read h.1
  obtain ⟨h1, h2⟩ := checkD_ok (writeF_ok hw).1
  exact ⟨hw, h1, h2, h.2⟩
theorem mount_may {d : Disk} (h : (mountF d).2.2 = 0) : disk.checkF d = 0 ∧ 96 ≤ d.count ∧ (mountF d).1.fs.length ≤ 32 ∧ mayD (mountF d).1 ∧ checkR d.count (allP (mountF d).1.fs) = 0 ∧ UpN (mountF d).1.fs := by
  obtain ⟨h1, h2, _, h3, h4⟩ := mountF_ok h
  obtain ⟨_, h5, h6, h7⟩ := slot_may h3
  rw [h4]
  exact ⟨h1, h2, h5, h6, h7, up_of h6.2.2.2⟩
theorem chgW_0 {x : Dir} : ∀ {l : List Change} {seen : List Bs}, chgW x seen l = 0 → (∀ c ∈ l, nameF c.key = true ∧ c.key ∉ seen ∧ (c.gone = true → ¬ findF x c.key < 0)) ∧ l.Pairwise (fun a b => a.key ≠ b.key)
  | [], _, _ => ⟨fun _ h => (by cases h), .nil⟩
  | c :: l, seen, h => by
    rw [chgW] at h
    split at h
    · rename_i h1; exact absurd h h1
    · rename_i h1
      have h1 := Decidable.not_not.1 h1
      obtain ⟨i1, i2⟩ := chgW_0 h
      have hc : nameF c.key = true ∧ c.key ∉ seen ∧ (c.gone = true → ¬ findF x c.key < 0) := by
        unfold oneW at h1
        split at h1
        · cases h1
        · rename_i h2
          split at h1
          · cases h1
          · rename_i h3
            split at h1
            · cases h1
            · rename_i h4
              exact ⟨Decidable.not_not.1 h2, h3, fun hg hf => h4 ⟨hg, hf⟩⟩
      refine ⟨fun d hd => ?_, List.pairwise_cons.2 ⟨fun d hd e => (i1 d hd).2.1 (by rw [← e]; simp), i2⟩⟩
      rcases List.mem_cons.1 hd with rfl | hd
      · exact hc
      · exact ⟨(i1 d hd).1, fun hs => (i1 d hd).2.1 (by simp [hs]), (i1 d hd).2.2⟩
theorem wrongF_0 {x : Dir} {l : List Change} (h : wrongF x l = 0) : l.length ≤ 64 ∧ (∀ c ∈ l, nameF c.key = true ∧ (c.gone = true → ¬ findF x c.key < 0)) ∧ l.Pairwise (fun a b => a.key ≠ b.key) := by
  unfold wrongF at h
  split at h
  · cases h
  · obtain ⟨h1, h2⟩ := chgW_0 h
    exact ⟨by omega, fun c hc => ⟨(h1 c hc).1, (h1 c hc).2.2⟩, h2⟩
end files
end Go.Proofs.YtpfehnopghffjaaGreatDoor
namespace Go.Proofs.YtpfehnopghffjaaGreatDoor
open Go
namespace files
open room
abbrev NV := Bs × Bs
def ltV (a b : NV) : Prop := Op.bytesLess a.1 b.1 = true
noncomputable def viewF (d : Disk) : List NV := (mountF d).1.fs.map (fun f => (f.name, bytesF d f))
def stepV (out : List NV) (c : Change) : List NV := out.filter (fun p => Op.bytesLess p.1 c.key) ++ (if c.gone = true then [] else [(c.key, c.value)]) ++ out.filter (fun p => Op.bytesLess c.key p.1)
noncomputable def map2F (d : Disk) (l : List Change) : List NV := l.foldl stepV (viewF d)
theorem stepV_mem {out : List NV} {c : Change} {p : NV} : p ∈ stepV out c ↔ (p ∈ out ∧ p.1 ≠ c.key) ∨ (c.gone = false ∧ p = (c.key, c.value)) := by
  unfold stepV
  simp only [List.mem_append, List.mem_filter]
  constructor
  · rintro ((⟨h1, h2⟩ | h) | ⟨h1, h2⟩)
    · exact .inl ⟨h1, fun e => bl_irr c.key (by rw [e] at h2; exact h2)⟩
    · cases hg : c.gone with
      | true => rw [hg, if_pos rfl] at h; cases h
      | false => rw [hg, if_neg (by exact Bool.false_ne_true)] at h; exact .inr ⟨rfl, by simpa using h⟩
    · exact .inl ⟨h1, fun e => bl_irr c.key (by rw [e] at h2; exact h2)⟩
  · rintro (⟨h1, h2⟩ | ⟨h1, rfl⟩)
    · rcases bl_tri p.1 c.key with h | h | h
      · exact .inl (.inl ⟨h1, h⟩)
      · exact absurd h h2
      · exact .inr ⟨h1, h⟩
    · exact .inl (.inr (by rw [h1, if_neg (by exact Bool.false_ne_true)]; simp))
theorem stepV_up {out : List NV} {c : Change} (h : out.Pairwise ltV) : (stepV out c).Pairwise ltV := by
  unfold stepV
  refine List.pairwise_append.2 ⟨List.pairwise_append.2 ⟨h.sublist (List.filter_sublist), ?_, ?_⟩, h.sublist (List.filter_sublist), ?_⟩
  · split
    · exact .nil
    · exact List.pairwise_singleton _ _
  · intro a ha b hb
    split at hb
    · cases hb
    · rw [List.mem_singleton] at hb
      subst hb
      exact (List.mem_filter.1 ha).2
  · intro a ha b hb
    have hb := (List.mem_filter.1 hb).2
    rcases List.mem_append.1 ha with ha | ha
    · exact bl_trans (List.mem_filter.1 ha).2 hb
    · split at ha
      · cases ha
      · rw [List.mem_singleton] at ha
        subst ha
        exact hb
theorem foldV : ∀ {l : List Change} {out : List NV}, out.Pairwise ltV → l.Pairwise (fun a b => a.key ≠ b.key) → (l.foldl stepV out).Pairwise ltV ∧ ∀ p, p ∈ l.foldl stepV out ↔ (p ∈ out ∧ ∀ c ∈ l, p.1 ≠ c.key) ∨ ∃ c ∈ l, c.gone = false ∧ p = (c.key, c.value)
  | [], out, h, _ => ⟨h, fun p => by simp⟩
  | c :: l, out, h, hd => by
    obtain ⟨h1, h2⟩ := List.pairwise_cons.1 hd
    obtain ⟨i1, i2⟩ := foldV (l := l) (stepV_up (c := c) h) h2
    refine ⟨i1, fun p => ?_⟩
    rw [List.foldl_cons, i2 p, stepV_mem]
    constructor
    · rintro (⟨⟨h3, h4⟩ | ⟨h3, h4⟩, h5⟩ | ⟨b, hb, h3, h4⟩)
      · exact .inl ⟨h3, fun b hb => by rcases List.mem_cons.1 hb with rfl | hb; exact h4; exact h5 b hb⟩
      · exact .inr ⟨c, by simp, h3, h4⟩
      · exact .inr ⟨b, by simp [hb], h3, h4⟩
    · rintro (⟨h3, h4⟩ | ⟨b, hb, h3, h4⟩)
      · exact .inl ⟨.inl ⟨h3, h4 c (by simp)⟩, fun b hb => h4 b (by simp [hb])⟩
      · rcases List.mem_cons.1 hb with rfl | hb
        · exact .inl ⟨.inr ⟨h3, h4⟩, fun a ha => by rw [h4]; exact h1 a ha⟩
        · exact .inr ⟨b, hb, h3, h4⟩
theorem view_up {d : Disk} (h : (mountF d).2.2 = 0) : (viewF d).Pairwise ltV := by
  obtain ⟨_, _, _, _, _, h2⟩ := mount_may h
  unfold viewF
  rw [List.pairwise_map]
  exact h2.imp (fun h => h)
theorem view_turned {d y : Disk} {l : List Change} {news : List File} (hd : (mountF d).2.2 = 0) (hw : wrongF (mountF d).1 l = 0) (hy : (mountF y).1.fs = sortN (keepN (mountF d).1 l ++ news))
    (hn : news.map (fun f => (f.name, bytesF y f)) = (freshN l).map (fun c => (c.key, c.value))) (hk : ∀ f ∈ keepN (mountF d).1 l, bytesF y f = bytesF d f) (hm : (mountF y).2.2 = 0) : viewF y = map2F d l := by
  obtain ⟨_, hw2, hw3⟩ := wrongF_0 hw
  obtain ⟨hu, hmm⟩ := foldV (view_up hd) hw3
  have hdist : (keepN (mountF d).1 l ++ news).Pairwise (fun f g => f.name ≠ g.name) := by
    obtain ⟨_, _, _, _, _, h2⟩ := mount_may hd
    have hnk : news.map (·.name) = (freshN l).map (·.key) := by
      have := congrArg (List.map Prod.fst) hn
      simpa [List.map_map, Function.comp_def] using this
    refine List.pairwise_append.2 ⟨(up_ne h2).sublist List.filter_sublist, ?_, fun a ha b hb => ?_⟩
    · rw [← List.pairwise_map (f := File.name) (R := fun a b => a ≠ b), hnk, List.pairwise_map]
      exact hw3.sublist List.filter_sublist
    · have h3 := (List.mem_filter.1 ha).2
      have hb' : b.name ∈ (freshN l).map (·.key) := by rw [← hnk]; exact List.mem_map.2 ⟨b, hb, rfl⟩
      obtain ⟨c, hc, hcb⟩ := List.mem_map.1 hb'
      intro e
      have : a.name ∈ l.map (·.key) := List.mem_map.2 ⟨c, (List.mem_filter.1 hc).1, by rw [hcb, e]⟩
      rw [decide_eq_true this] at h3
      cases h3
  refine sorted_ext (lt := ltV) (fun a => bl_irr _) (fun h k => bl_trans h k) (view_up hm) hu (fun p => ?_)
  unfold map2F
  rw [hmm p]
  unfold viewF
  rw [hy]
  constructor
  · intro h
    obtain ⟨f, hf, rfl⟩ := List.mem_map.1 h
    rcases List.mem_append.1 (((sortN_ok hdist).2 f).1 hf) with hf | hf
    · refine .inl ⟨List.mem_map.2 ⟨f, (List.mem_filter.1 hf).1, by rw [hk f hf]⟩, fun c hc e => ?_⟩
      have h3 := (List.mem_filter.1 hf).2
      have e : f.name = c.key := e
      have : f.name ∈ l.map (·.key) := List.mem_map.2 ⟨c, hc, e.symm⟩
      rw [decide_eq_true this] at h3
      cases h3
    · have : (f.name, bytesF y f) ∈ news.map (fun f => (f.name, bytesF y f)) := List.mem_map.2 ⟨f, hf, rfl⟩
      rw [hn] at this
      obtain ⟨c, hc, e⟩ := List.mem_map.1 this
      obtain ⟨hc1, hc2⟩ := List.mem_filter.1 hc
      exact .inr ⟨c, hc1, by simpa using hc2, e.symm⟩
  · rintro (⟨h1, h2⟩ | ⟨c, hc, h1, rfl⟩)
    · obtain ⟨f, hf, rfl⟩ := List.mem_map.1 h1
      have hkf : f ∈ keepN (mountF d).1 l := by
        refine List.mem_filter.2 ⟨hf, ?_⟩
        have : f.name ∉ l.map (·.key) := fun hx => by
          obtain ⟨c, hc, e⟩ := List.mem_map.1 hx
          exact h2 c hc e.symm
        rw [decide_eq_false this]; rfl
      exact List.mem_map.2 ⟨f, ((sortN_ok hdist).2 f).2 (List.mem_append_left _ hkf), by rw [hk f hkf]⟩
    · have : (c.key, c.value) ∈ (freshN l).map (fun c => (c.key, c.value)) := List.mem_map.2 ⟨c, List.mem_filter.2 ⟨hc, by rw [h1]; rfl⟩, rfl⟩
      rw [← hn] at this
      obtain ⟨f, hf, e⟩ := List.mem_map.1 this
      exact List.mem_map.2 ⟨f, ((sortN_ok hdist).2 f).2 (List.mem_append_right _ hf), e⟩
theorem find_up {x : Dir} (h : UpN x.fs) {i : Nat} (hi : i < x.fs.length) : findF x x.fs[i].name = (i : Int) :=
  findF_at hi (fun j hj e => by
    have h2 := List.pairwise_iff_getElem.1 h j i (by omega) hi hj
    have h2 : Op.bytesLess (x.fs[j]'(by omega)).name x.fs[i].name = true := h2
    rw [e] at h2
    exact bl_irr _ h2) rfl
theorem get_at {d : Disk} (h : (mountF d).2.2 = 0) {i : Nat} (hi : i < (mountF d).1.fs.length) : getF d (mountF d).1.fs[i].name = (bytesF d (mountF d).1.fs[i], 0) := by
  obtain ⟨_, _, _, hm, _, hu⟩ := mount_may h
  have hf := find_up hu hi
  have hnm : nameF (mountF d).1.fs[i].name = true := (hm.2.2.2 i hi).1
  unfold getF
  rw [if_neg (fun x => x h), if_neg (fun x => x hnm), hf, if_neg (by omega), Int.toNat_natCast, List.getD_eq_getElem?_getD, List.getElem?_eq_getElem hi]
  rfl
end files
end Go.Proofs.YtpfehnopghffjaaGreatDoor
namespace Go.Proofs.YtpfehnopghffjaaGreatDoor
open Go
namespace files
open room
def OkPuts (d : Disk) (l : List disk.Put) : Prop := ∀ p ∈ l, 0 ≤ p.sector ∧ p.sector < d.count ∧ p.data.length = 128
def waitD (d : Disk) (l : List disk.Put) : Disk := { d with waits := l }
theorem do_one {d : Disk} {p : disk.Put} (hc : disk.checkF d = 0) (hp : 0 ≤ p.sector ∧ p.sector < d.count ∧ p.data.length = 128) (hl : d.waits.length < 4096) : disk.doF d [⟨false, p⟩] = (waitD d (d.waits ++ [p]), 0) := by
  unfold disk.doF
  rw [if_neg (fun h => h hc), disk.doN, if_neg (by simp), if_neg (by show ¬ (p.sector < 0 ∨ d.count ≤ p.sector); omega), if_neg (by show ¬ ¬ (p.data.length : Int) = 128; omega), if_neg (by omega)]
  rfl
theorem do_puts : ∀ (l : List disk.Put) {d : Disk}, disk.checkF d = 0 → OkPuts d l → d.waits.length + l.length ≤ 4096 → disk.doF d (putA l) = (waitD d (d.waits ++ l), 0) ∧ disk.checkF (waitD d (d.waits ++ l)) = 0
  | [], d, hc, _, _ => by
    have e : waitD d (d.waits ++ []) = d := by rw [List.append_nil]; rfl
    rw [e]
    refine ⟨?_, hc⟩
    unfold disk.doF
    rw [if_neg (fun h => h hc)]
    rfl
  | p :: l, d, hc, ho, hl => by
    have hp := ho p (by simp)
    rw [List.length_cons] at hl
    have hc2 : disk.checkF (waitD d (d.waits ++ [p])) = 0 := disk.check_put hc (by omega) hp
    obtain ⟨h1, h2⟩ := do_puts l (d := waitD d (d.waits ++ [p])) hc2 (fun q hq => ho q (by simp [hq])) (by show (d.waits ++ [p]).length + l.length ≤ 4096; rw [List.length_append, List.length_singleton]; omega)
    have e : waitD (waitD d (d.waits ++ [p])) ((waitD d (d.waits ++ [p])).waits ++ l) = waitD d (d.waits ++ p :: l) := by
      show waitD d ((d.waits ++ [p]) ++ l) = _
      rw [List.append_assoc]; rfl
    rw [e] at h1 h2
    refine ⟨?_, h2⟩
    show disk.doF d ([⟨false, p⟩] ++ putA l) = _
    rw [disk.doF_first_ok (do_one hc hp (by omega))]
    exact h1
theorem lastOf_app (a b : List disk.Put) (n : Int) : disk.lastOf (a ++ b) n = match disk.lastOf b n with | some x => some x | none => disk.lastOf a n := by
  unfold disk.lastOf
  rw [List.reverse_append, List.find?_append]
  cases (b.reverse.find? (fun p => p.sector = n)) <;> rfl
theorem lastOf_none {l : List disk.Put} {n : Int} (h : ∀ p ∈ l, ¬ p.sector = n) : disk.lastOf l n = none := by
  unfold disk.lastOf
  rw [List.find?_eq_none.2 (fun p hp => by simpa using h p (List.mem_reverse.1 hp))]
  rfl
theorem lastOf_some {l : List disk.Put} {n : Int} {b : Bs} (h : disk.lastOf l n = some b) : ∃ p ∈ l, p.sector = n ∧ p.data = b := by
  unfold disk.lastOf at h
  cases hf : l.reverse.find? (fun p => p.sector = n) with
  | none => rw [hf] at h; cases h
  | some p =>
    rw [hf] at h
    refine ⟨p, List.mem_reverse.1 (List.mem_of_find?_eq_some hf), by simpa using List.find?_some hf, by simpa using h⟩
theorem lastOf_of {l : List disk.Put} (hd : l.Pairwise (fun p q => p.sector ≠ q.sector)) {p : disk.Put} (hp : p ∈ l) : disk.lastOf l p.sector = some p.data := by
  cases h : disk.lastOf l p.sector with
  | none =>
    unfold disk.lastOf at h
    rw [Option.map_eq_none_iff, List.find?_eq_none] at h
    exact (h p (List.mem_reverse.2 hp) (decide_eq_true rfl)).elim
  | some b =>
    obtain ⟨q, hq, h1, h2⟩ := lastOf_some h
    have e : p = q := by
      obtain ⟨i, hi, rfl⟩ := List.getElem_of_mem hp
      obtain ⟨j, hj, rfl⟩ := List.getElem_of_mem hq
      rcases Nat.lt_trichotomy i j with h3 | h3 | h3
      · exact absurd h1.symm (List.pairwise_iff_getElem.1 hd i j hi hj h3)
      · subst h3; rfl
      · exact absurd h1 (List.pairwise_iff_getElem.1 hd j i hj hi h3)
    rw [e, h2]
theorem read_wait (d : Disk) (l : List disk.Put) (n : Int) (hw : d.waits = []) : disk.readF (waitD d l) n = match disk.lastOf l n with | some b => b | none => disk.readF d n := by
  unfold disk.readF
  rw [hw]
  rfl
theorem read_wait_app (d : Disk) (a b : List disk.Put) (n : Int) : disk.readF (waitD d (a ++ b)) n = match disk.lastOf b n with | some x => x | none => disk.readF (waitD d a) n := by
  unfold disk.readF
  show (match disk.lastOf (a ++ b) n with | some b => b | none => _) = _
  rw [lastOf_app]
  cases disk.lastOf b n <;> rfl
theorem read_wait_no {d : Disk} {l : List disk.Put} {n : Int} (hw : d.waits = []) (h : ∀ p ∈ l, ¬ p.sector = n) : disk.readF (waitD d l) n = disk.readF d n := by rw [read_wait d l n hw, lastOf_none h]
theorem crash_sec {x : Disk} (hc : disk.checkF x = 0) {n : Int} (h0 : 0 ≤ n) (hn : n < x.count) (keep : Nat → Bool) : disk.readF (disk.settleD x keep) n = disk.readF (waitD x []) n ∨ ∃ p ∈ x.waits, p.sector = n ∧ p.data = disk.readF (disk.settleD x keep) n := by
  have e : disk.readF (disk.settleD x keep) n = disk.lastK x keep n.toNat x.waits.length := by
    rw [disk.readF_settle, disk.settled_sec hc keep (by omega)]
  rw [e]
  rcases disk.lastK_or x keep n.toNat x.waits.length with h | ⟨i, p, h1, h2, h3⟩
  · exact .inl h
  · exact .inr ⟨p, List.mem_of_getElem? h1, by omega, h3⟩
theorem wait_none {x : Disk} (h : x.waits = []) : waitD x [] = x := by obtain ⟨c, d, w⟩ := x; simp only at h; subst h; rfl
def Broken (d : Disk) (S D : List disk.Put) (y : Disk) : Prop :=
  (∀ n, 0 ≤ n → n < d.count → (∀ p ∈ S, ¬ p.sector = n) → disk.readF y n = disk.readF d n) ∨ ∀ n, 0 ≤ n → n < d.count → disk.readF y n = disk.readF (waitD d S) n ∨ ∃ p ∈ D, p.sector = n ∧ p.data = disk.readF y n
def flushS (S : List disk.Put) : List disk.Act := if S = [] then [] else [flushA]
def actsSD (S D : List disk.Put) : List disk.Act := putA S ++ flushS S ++ putA D ++ [flushA]
theorem do_flush {x : Disk} (hc : disk.checkF x = 0) : ∃ y, disk.doF x [flushA] = (y, 0) ∧ disk.checkF y = 0 ∧ y.count = x.count ∧ y.waits = [] ∧ ∀ n, 0 ≤ n → n < x.count → disk.readF y n = disk.readF x n :=
  ⟨disk.settleD x (fun _ => true), disk.flush_ok hc, disk.check_settle hc _, rfl, rfl, fun n h0 hn => by rw [disk.readF_settle, disk.flush_read hc h0 hn]⟩
theorem do_first {d : Disk} {S : List disk.Put} (hc : disk.checkF d = 0) (hw : d.waits = []) (hS : OkPuts d S) (hSl : S.length ≤ 4096) : ∃ x, disk.doF d (putA S ++ flushS S) = (x, 0) ∧ disk.checkF x = 0 ∧ x.count = d.count ∧ x.waits = [] ∧ ∀ n, 0 ≤ n → n < d.count → disk.readF x n = disk.readF (waitD d S) n := by
  by_cases hs : S = []
  · subst hs
    refine ⟨d, ?_, hc, rfl, hw, fun n _ _ => by rw [wait_none hw]⟩
    unfold disk.doF
    rw [if_neg (fun h => h hc)]
    rfl
  · obtain ⟨h1, h2⟩ := do_puts S hc hS (by rw [hw]; simpa using hSl)
    rw [hw, List.nil_append] at h1 h2
    obtain ⟨y, h3, h4, h5, h6, h7⟩ := do_flush h2
    refine ⟨y, ?_, h4, h5, h6, h7⟩
    have e : flushS S = [flushA] := by unfold flushS; rw [if_neg hs]
    rw [e, disk.doF_first_ok h1]
    exact h3
theorem ok_same {d x : Disk} {l : List disk.Put} (h : OkPuts d l) (hx : x.count = d.count) : OkPuts x l := fun p hp => by rw [hx]; exact h p hp
theorem do_take {d : Disk} {S D : List disk.Put} (hc : disk.checkF d = 0) (hw : d.waits = []) (hS : OkPuts d S) (hD : OkPuts d D) (hSl : S.length ≤ 4096) (hDl : D.length ≤ 4096) {n : Nat} (hn : n ≤ (actsSD S D).length) :
    ∃ x, disk.doF d ((actsSD S D).take n) = (x, 0) ∧ disk.checkF x = 0 ∧ x.count = d.count ∧ (n = (actsSD S D).length → x.waits = [] ∧ ∀ m, 0 ≤ m → m < d.count → disk.readF x m = disk.readF (waitD d (S ++ D)) m) ∧
      ∀ keep, Broken d S D (disk.settleD x keep) ∧ (n = (actsSD S D).length → ∀ m, 0 ≤ m → m < d.count → disk.readF (disk.settleD x keep) m = disk.readF (waitD d (S ++ D)) m) := by
  have hlS : (putA S).length = S.length := by simp [putA]
  have hlD : (putA D).length = D.length := by simp [putA]
  have hfl : (flushS S).length ≤ 1 := by unfold flushS; split <;> simp
  have hL : (actsSD S D).length = S.length + (flushS S).length + D.length + 1 := by unfold actsSD; simp only [List.length_append, hlS, hlD, List.length_singleton]
  by_cases hle : n ≤ S.length
  · have ht : (actsSD S D).take n = putA (S.take n) := by
      unfold actsSD
      rw [List.append_assoc, List.append_assoc, List.take_append_of_le_length (by omega)]
      unfold putA
      rw [List.map_take]
    have hSn : OkPuts d (S.take n) := fun p hp => hS p (List.mem_of_mem_take hp)
    obtain ⟨h1, h2⟩ := do_puts (S.take n) hc hSn (by rw [hw, List.length_take]; simp; omega)
    rw [hw, List.nil_append] at h1 h2
    refine ⟨_, by rw [ht]; exact h1, h2, rfl, fun h => by omega, fun keep => ⟨.inl fun m h0 hm hno => ?_, fun h => by omega⟩⟩
    rcases crash_sec h2 h0 hm keep with h | ⟨p, hp, h3, _⟩
    · rw [h]
      show disk.readF (waitD d []) m = _
      rw [wait_none hw]
    · exact absurd h3 (hno p (List.mem_of_mem_take hp))
  · obtain ⟨x1, h1, h2, h3, h4, h5⟩ := do_first hc hw hS hSl
    have ht : (actsSD S D).take n = (putA S ++ flushS S) ++ (putA D ++ [flushA]).take (n - (putA S ++ flushS S).length) := by
      unfold actsSD
      rw [List.append_assoc (putA S ++ flushS S), List.take_append, List.take_of_length_le (by rw [List.length_append, hlS]; omega)]
    rw [ht, disk.doF_first_ok h1]
    have hk : n - (putA S ++ flushS S).length = n - (S.length + (flushS S).length) := by rw [List.length_append, hlS]
    rw [hk]
    have hD1 := ok_same hD h3
    by_cases hk2 : n - (S.length + (flushS S).length) ≤ D.length
    · have ht2 : (putA D ++ [flushA]).take (n - (S.length + (flushS S).length)) = putA (D.take (n - (S.length + (flushS S).length))) := by
        rw [List.take_append_of_le_length (by omega)]
        unfold putA
        rw [List.map_take]
      have hDn : OkPuts x1 (D.take (n - (S.length + (flushS S).length))) := fun p hp => hD1 p (List.mem_of_mem_take hp)
      obtain ⟨k1, k2⟩ := do_puts _ h2 hDn (by rw [h4, List.length_take]; simp; omega)
      rw [h4, List.nil_append] at k1 k2
      refine ⟨_, by rw [ht2]; exact k1, k2, h3, fun h => by omega, fun keep => ⟨.inr fun m h0 hm => ?_, fun h => by omega⟩⟩
      rcases crash_sec k2 h0 (by show m < x1.count; omega) keep with h | ⟨p, hp, h6, h7⟩
      · left
        rw [h]
        show disk.readF (waitD x1 []) m = _
        rw [wait_none h4, h5 m h0 hm]
      · exact .inr ⟨p, List.mem_of_mem_take hp, h6, h7⟩
    · have ht2 : (putA D ++ [flushA]).take (n - (S.length + (flushS S).length)) = putA D ++ [flushA] := List.take_of_length_le (by rw [List.length_append, hlD, List.length_singleton]; omega)
      obtain ⟨k1, k2⟩ := do_puts D h2 hD1 (by rw [h4]; simpa using hDl)
      rw [h4, List.nil_append] at k1 k2
      obtain ⟨y, j1, j2, j3, j4, j5⟩ := do_flush k2
      have hr : ∀ m, 0 ≤ m → m < d.count → disk.readF y m = disk.readF (waitD d (S ++ D)) m := fun m h0 hm => by
        rw [j5 m h0 (by show m < x1.count; omega), read_wait_app, read_wait x1 D m h4]
        cases disk.lastOf D m with
        | some b => rfl
        | none => exact h5 m h0 hm
      have hy : y.count = d.count := by rw [j3]; exact h3
      have hcr : ∀ keep m, 0 ≤ m → m < d.count → disk.readF (disk.settleD y keep) m = disk.readF (waitD d (S ++ D)) m := fun keep m h0 hm => by
        rcases crash_sec j2 h0 (by omega) keep with h | ⟨p, hp, _⟩
        · rw [h, wait_none j4, hr m h0 hm]
        · rw [j4] at hp; cases hp
      refine ⟨y, by rw [ht2, disk.doF_first_ok k1]; exact j1, j2, hy, fun _ => ⟨j4, hr⟩, fun keep => ⟨.inr fun m h0 hm => ?_, fun _ => hcr keep⟩⟩
      have := hcr keep m h0 hm
      rw [read_wait_app] at this
      cases hl : disk.lastOf D m with
      | none => rw [hl] at this; exact .inl this
      | some b =>
        rw [hl] at this
        obtain ⟨p, hp, h6, h7⟩ := lastOf_some hl
        exact .inr ⟨p, hp, h6, by rw [this, h7]⟩
end files
end Go.Proofs.YtpfehnopghffjaaGreatDoor
namespace Go.Proofs.YtpfehnopghffjaaGreatDoor
open Go room
namespace room
def inP (p : Piece) (k : Nat) : Int := if p.fr ≤ (k : Int) ∧ (k : Int) < p.fr + p.ct then 1 else 0
def cnt : List Piece → Nat → Int
  | [], _ => 0
  | p :: l, k => inP p k + cnt l k
theorem cnt_apart : ∀ {l : List Piece}, l.Pairwise apart → ∀ k, cnt l k = if covB l k = true then 1 else 0
  | [], _, k => rfl
  | p :: l, h, k => by
    obtain ⟨h1, h2⟩ := List.pairwise_cons.1 h
    have ih := cnt_apart h2 k
    rw [cnt, ih, show covB (p :: l) k = (decide (p.fr ≤ (k : Int) ∧ (k : Int) < p.fr + p.ct) || covB l k) from by simp [covB]]
    unfold inP
    by_cases hp : p.fr ≤ (k : Int) ∧ (k : Int) < p.fr + p.ct
    · have hn : covB l k = false := covB_false (fun q hq hh => by have := h1 q hq; unfold apart at this; omega)
      rw [if_pos hp, hn, decide_eq_true hp]; rfl
    · rw [if_neg hp, decide_eq_false hp, Bool.false_or, Int.zero_add]
theorem apart_of_sep {l : List Piece} (h : l.Pairwise (fun p q => p.fr + p.ct < q.fr)) : l.Pairwise apart := h.imp (fun h => .inl (Int.le_of_lt h))
end room
end Go.Proofs.YtpfehnopghffjaaGreatDoor
namespace Go.Proofs.YtpfehnopghffjaaGreatDoor
open Go
namespace room
def sumN (f : Nat → Int) : Nat → Int
  | 0 => 0
  | n + 1 => sumN f n + f n
theorem sumN_add (f g : Nat → Int) : ∀ n, sumN (fun k => f k + g k) n = sumN f n + sumN g n
  | 0 => rfl
  | n + 1 => by rw [sumN, sumN, sumN, sumN_add f g n]; omega
theorem sumN_le {f : Nat → Int} : ∀ {n : Nat}, (∀ k, k < n → f k ≤ 1) → sumN f n ≤ n
  | 0, _ => by simp [sumN]
  | n + 1, h => by have := sumN_le (f := f) (n := n) (fun k hk => h k (by omega)); have := h n (by omega); rw [sumN]; omega
theorem sum_in {p : Piece} (h0 : 0 ≤ p.fr) (h1 : 0 ≤ p.ct) : ∀ n : Nat, sumN (inP p) n = max 0 (min (n : Int) (p.fr + p.ct) - p.fr)
  | 0 => by rw [sumN]; omega
  | n + 1 => by
    rw [sumN, sum_in h0 h1 n]
    unfold inP
    split <;> omega
theorem total_sum {n : Nat} : ∀ {l : List Piece}, (∀ p ∈ l, okP (n : Int) p) → totalF l = sumN (cnt l) n
  | [], _ => by
    rw [totalF]
    induction n with
    | zero => rfl
    | succ n ih => rw [sumN, ← ih (fun p hp => by cases hp)]; rfl
  | p :: l, h => by
    have h0 := h p (by simp)
    unfold okP at h0
    rw [totalF, total_sum (fun q hq => h q (List.mem_cons_of_mem _ hq)), show cnt (p :: l) = fun k => inP p k + cnt l k from rfl, sumN_add, sum_in (by omega) (by omega)]
    omega
theorem total_ge : ∀ {l : List Piece}, (∀ p ∈ l, 1 ≤ p.ct) → (l.length : Int) ≤ totalF l
  | [], _ => by simp [totalF]
  | p :: l, h => by
    have h0 := h p (by simp)
    have := total_ge (l := l) (fun q hq => h q (List.mem_cons_of_mem _ hq))
    simp only [totalF, List.length_cons]; omega
theorem may_length {n : Nat} {l : List Piece} (h : mayP (n : Int) l) : l.length ≤ n ∧ totalF l ≤ n := by
  have h1 := total_ge (l := l) (fun p hp => (h.1 p hp).1)
  have h2 := total_sum h.1
  have h3 := sumN_le (f := cnt l) (n := n) (fun k _ => by rw [cnt_apart h.2]; split <;> omega)
  omega
theorem total_push (out : List Piece) (k : Int) : totalF (pushR out k) = totalF out + 1 := by
  rcases List.eq_nil_or_concat out with h | ⟨o, q, h⟩
  · subst h; rfl
  · rw [List.concat_eq_append] at h
    subst h
    rw [push_snoc]
    split
    · rw [total_append, total_append]; simp only [totalF]; omega
    · rw [total_append, total_append]; simp only [totalF]; omega
theorem take_append : ∀ {o r : List Piece} {m : Int}, (∀ p ∈ o, 1 ≤ p.ct) → totalF o ≤ m → takeF (o ++ r) m = o ++ takeF r (m - totalF o)
  | [], r, m, _, _ => by simp [totalF]
  | p :: o, r, m, h, hm => by
    have h0 := h p (by simp)
    have h1 := total_pos (l := o) (fun q hq => h q (List.mem_cons_of_mem _ hq))
    simp only [totalF] at hm
    rw [List.cons_append, takeF, if_neg (by omega), show min p.ct m = p.ct by omega, take_append (fun q hq => h q (List.mem_cons_of_mem _ hq)) (by omega), totalF, show m - p.ct - totalF o = m - (p.ct + totalF o) by omega]
    rfl
theorem take_push {out : List Piece} {k m : Int} (h : ∀ p ∈ out, 1 ≤ p.ct) (h0 : 0 ≤ m) (hm : m ≤ totalF out) : takeF (pushR out k) m = takeF out m := by
  rcases List.eq_nil_or_concat out with e | ⟨o, q, e⟩
  · subst e
    have : m = 0 := by simp only [totalF] at hm; omega
    subst this; rfl
  · rw [List.concat_eq_append] at e
    subst e
    rw [push_snoc]
    split
    · have ho : ∀ p ∈ o, 1 ≤ p.ct := fun p hp => h p (by simp [hp])
      by_cases hc : m ≤ totalF o
      · rw [take_more ho h0 hc, take_more ho h0 hc]
      · rw [total_append] at hm
        simp only [totalF] at hm
        rw [take_append ho (by omega), take_append ho (by omega)]
        simp only [takeF]
        rw [if_neg (by omega), if_neg (by omega), show min (q.ct + 1) (m - totalF o) = m - totalF o by omega, show min q.ct (m - totalF o) = m - totalF o by omega]
    · exact take_more h h0 hm
theorem take_runs {f : Nat → Bool} {a : Nat} : ∀ {n : Nat} {m : Int}, 0 ≤ m → m ≤ totalF (runsTo f a n) → ∃ n', n' ≤ n ∧ takeF (runsTo f a n) m = runsTo f a n' ∧ totalF (runsTo f a n') = m
  | 0, m, h0, hm => ⟨0, Nat.le_refl _, rfl, by simp only [runsTo, totalF] at hm ⊢; omega⟩
  | n + 1, m, h0, hm => by
    have hp := (runs_ok f a n).pos
    by_cases hf : f (a + n) = true
    · by_cases he : m = totalF (runsTo f a (n + 1))
      · exact ⟨n + 1, Nat.le_refl _, take_all (fun p hp => ((runs_ok f a (n + 1)).pos p hp).1) (by omega), he.symm⟩
      · rw [runsTo, if_pos hf] at he hm ⊢
        rw [total_push] at he hm
        obtain ⟨n', h1, h2, h3⟩ := take_runs (f := f) (a := a) (n := n) h0 (by omega)
        exact ⟨n', by omega, by rw [take_push (fun p h => (hp p h).1) h0 (by omega), h2], h3⟩
    · rw [runsTo, if_neg hf] at hm ⊢
      obtain ⟨n', h1, h2, h3⟩ := take_runs (f := f) (a := a) (n := n) h0 hm
      exact ⟨n', by omega, h2, h3⟩
theorem runs_may {f : Nat → Bool} {a n N : Nat} (h : a + n ≤ N) (l : List Piece) (he : l = runsTo f a n) : mayP (N : Int) l := by
  subst he
  have R := runs_ok f a n
  refine ⟨fun p hp => ?_, apart_of_sep R.sep⟩
  obtain ⟨h1, h2, h3⟩ := R.pos p hp
  unfold okP; omega
theorem both_may {l : List Piece} {a n N : Nat} (h : a + n ≤ N) (hm : mayP (N : Int) l) : mayP (N : Int) (l ++ runsTo (fun k => !covB l k) a n) := by
  have R := runs_ok (fun k => !covB l k) a n
  have hr := runs_may (f := fun k => !covB l k) h _ rfl
  refine ⟨fun p hp => ?_, List.pairwise_append.2 ⟨hm.2, hr.2, fun p hp q hq => ?_⟩⟩
  · rcases List.mem_append.1 hp with hp | hp
    · exact hm.1 p hp
    · exact hr.1 p hp
  · refine Decidable.byContradiction fun hn => ?_
    have h1 := hm.1 p hp
    have h2 := hr.1 q hq
    unfold okP at h1 h2
    unfold apart at hn
    have hk : ∃ k : Nat, (k : Int) = max p.fr q.fr := ⟨(max p.fr q.fr).toNat, by omega⟩
    obtain ⟨k, hk⟩ := hk
    have c1 : covB l k = true := cov_iff.2 ⟨p, hp, by omega, by omega⟩
    have c2 : covB (runsTo (fun k => !covB l k) a n) k = true := cov_iff.2 ⟨q, hq, by omega, by omega⟩
    rw [R.cov k, c1] at c2
    simp at c2
end room
end Go.Proofs.YtpfehnopghffjaaGreatDoor
namespace Go.Proofs.YtpfehnopghffjaaGreatDoor
open Go room
namespace room
theorem take_in {first count : Int} {l : List Piece} {many : Int} (h : takeE first count l many = 0) : 0 ≤ many ∧ many ≤ 4096 ∧ freeE first count l = 0 ∧ many ≤ totalF (freeL first count l) := by
  unfold takeE at h
  split at h
  · cases h
  · rename_i h1
    split at h
    · rename_i hn; exact absurd h hn
    · rename_i hn
      split at h
      · cases h
      · rename_i h2; exact ⟨by omega, by omega, Decidable.not_not.1 hn, by omega⟩
theorem takeL_runs {f n : Nat} {l : List Piece} {many : Int} (h : takeE (f : Int) (n : Int) l many = 0) : ∃ n', f + n' ≤ n ∧ takeL (f : Int) (n : Int) l many = runsTo (fun k => !covB l k) f n' ∧ totalF (takeL (f : Int) (n : Int) l many) = many := by
  obtain ⟨h1, h2, h3, h4⟩ := take_in h
  obtain ⟨i1, i2, i3, _⟩ := freeE_in h3
  have hF : freeL (f : Int) (n : Int) l = runsTo (fun k => !covB l k) f (n - f) := freeL_ok h3
  rw [hF] at h4
  obtain ⟨n', a1, a2, a3⟩ := take_runs h1 h4
  refine ⟨n', by omega, ?_, ?_⟩
  · rw [takeL_ok h, hF, a2]
  · rw [takeL_ok h, hF, a2, a3]
end room
end Go.Proofs.YtpfehnopghffjaaGreatDoor
namespace Go.Proofs.YtpfehnopghffjaaGreatDoor
open Go
namespace files
open room
theorem sect_mem {l : List Piece} (h : ∀ p ∈ l, 0 ≤ p.ct) {n : Int} : n ∈ sectF l ↔ ∃ p ∈ l, p.fr ≤ n ∧ n < p.fr + p.ct := by
  unfold sectF
  rw [List.mem_flatMap]
  constructor
  · rintro ⟨p, hp, hn⟩
    unfold oneF at hn
    obtain ⟨k, hk, rfl⟩ := List.mem_map.1 hn
    rw [List.mem_range] at hk
    have := h p hp
    exact ⟨p, hp, by omega, by omega⟩
  · rintro ⟨p, hp, h1, h2⟩
    refine ⟨p, hp, ?_⟩
    unfold oneF
    exact List.mem_map.2 ⟨(n - p.fr).toNat, List.mem_range.2 (by omega), by omega⟩
theorem sect_cons (p : Piece) (l : List Piece) : sectF (p :: l) = oneF p p.ct.toNat ++ sectF l := by simp [sectF]
theorem sect_append (a b : List Piece) : sectF (a ++ b) = sectF a ++ sectF b := by simp [sectF]
theorem sect_nodup : ∀ {l : List Piece}, (∀ p ∈ l, 0 ≤ p.ct) → l.Pairwise apart → (sectF l).Pairwise (fun a b => a ≠ b)
  | [], _, _ => .nil
  | p :: l, h, ha => by
    obtain ⟨h1, h2⟩ := List.pairwise_cons.1 ha
    rw [sect_cons]
    refine List.pairwise_append.2 ⟨?_, sect_nodup (fun q hq => h q (by simp [hq])) h2, fun a ha b hb e => ?_⟩
    · unfold oneF
      rw [List.pairwise_map]
      exact List.pairwise_lt_range.imp (fun {a b} h => by omega)
    · subst e
      unfold oneF at ha
      obtain ⟨k, hk, rfl⟩ := List.mem_map.1 ha
      rw [List.mem_range] at hk
      obtain ⟨q, hq, h3, h4⟩ := (sect_mem (fun q hq => h q (by simp [hq]))).1 hb
      have := h1 q hq
      unfold apart at this
      omega
theorem sect_total : ∀ {l : List Piece}, (∀ p ∈ l, 0 ≤ p.ct) → ((sectF l).length : Int) = totalF l
  | [], _ => rfl
  | p :: l, h => by
    have h0 := h p (by simp)
    have ih := sect_total (l := l) (fun q hq => h q (by simp [hq]))
    rw [sect_cons, List.length_append, one_length, totalF]
    omega
theorem may_mono {N M : Nat} {l : List Piece} (h : N ≤ M) (hm : mayP (N : Int) l) : mayP (M : Int) l :=
  ⟨fun p hp => by have := hm.1 p hp; unfold okP at this ⊢; omega, hm.2⟩
theorem may_check {N : Nat} {l : List Piece} (h : N ≤ 4096) (hm : mayP (N : Int) l) : checkR (N : Int) l = 0 ∧ checkR 4096 l = 0 := by
  have h1 := (may_length hm).1
  exact ⟨check_0 (by omega) (by omega) hm, check_0 (by omega) (by omega) (may_mono (M := 4096) h hm)⟩
theorem may_sub {N : Int} {l m : List Piece} (h : List.Sublist l m) (hm : mayP N m) : mayP N l := ⟨fun p hp => hm.1 p (h.subset hp), hm.2.sublist h⟩
theorem may_perm {N : Int} {l m : List Piece} (h : l.Perm m) (hm : mayP N m) : mayP N l := ⟨fun p hp => hm.1 p (h.mem_iff.1 hp), (h.pairwise_iff (R := apart) (fun h => apart_symm h)).2 hm.2⟩
theorem may_pos {N : Int} {l : List Piece} (hm : mayP N l) : ∀ p ∈ l, 0 ≤ p.ct := fun p hp => by have := hm.1 p hp; unfold okP at this; omega
theorem take_new {n : Nat} {used : List Piece} {m : Int} (hu : mayP (n : Int) used) (h : takeE 80 (n : Int) used m = 0) :
    mayP (n : Int) (used ++ takeL 80 (n : Int) used m) ∧ (∀ q ∈ takeL 80 (n : Int) used m, 80 ≤ q.fr) ∧ totalF (takeL 80 (n : Int) used m) = m ∧ n ≤ 4096 := by
  have h : takeE ((80 : Nat) : Int) (n : Int) used m = 0 := h
  obtain ⟨n', h1, h2, h3⟩ := takeL_runs h
  have h4 := (take_in h).2.2.1
  obtain ⟨_, _, h5, _⟩ := freeE_in h4
  have e : takeL 80 (n : Int) used m = takeL ((80 : Nat) : Int) (n : Int) used m := rfl
  rw [e, h2]
  refine ⟨both_may h1 hu, fun q hq => ?_, by rw [← h2]; exact h3, by omega⟩
  have := ((runs_ok _ _ _).pos q hq).2.1
  omega
abbrev New1 := Change × List Piece
def fileOf (x : New1) : File := ⟨x.1.key, x.1.value.length, x.2⟩
def putsN (N : List New1) : List disk.Put := N.flatMap (fun x => putsV x.2 x.1.value)
theorem puts_ok {n : Nat} : ∀ (l : List Change) {fs : List File} {zs : List disk.Act} {used : List Piece}, mayP (n : Int) used → (putsF (n : Int) l fs zs used).2.2 = 0 →
    ∃ N : List New1, N.map (·.1) = l ∧ (putsF (n : Int) l fs zs used).1 = fs ++ N.map fileOf ∧ (putsF (n : Int) l fs zs used).2.1 = zs ++ putA (putsN N) ∧ mayP (n : Int) (used ++ N.flatMap (·.2)) ∧
      ∀ x ∈ N, (∀ q ∈ x.2, 80 ≤ q.fr) ∧ totalF x.2 = needF x.1.value.length ∧ checkR 4096 x.2 = 0
  | [], fs, zs, used, hu, h => ⟨[], rfl, by simp [putsF], by simp [putsF, putsN, putA], by simpa using hu, fun x hx => by cases hx⟩
  | c :: l, fs, zs, used, hu, h => by
    rw [putsF] at h ⊢
    by_cases h1 : 4096 < needF c.value.length
    · rw [if_pos h1] at h; cases h
    · by_cases h2 : takeE 80 (n : Int) used (needF c.value.length) = 0
      · rw [if_neg h1, if_neg (fun x => x h2)] at h
        rw [if_neg h1, if_neg (fun x => x h2)]
        obtain ⟨t1, t2, t3, t4⟩ := take_new hu h2
        generalize takeL 80 (n : Int) used (needF c.value.length) = p at *
        have hp := may_sub (List.sublist_append_right used p) t1
        obtain ⟨N, k1, k2, k3, k4, k5⟩ := puts_ok l t1 h
        refine ⟨(c, p) :: N, by rw [List.map_cons, k1], ?_, ?_, ?_, fun x hx => ?_⟩
        · rw [k2, List.map_cons, List.append_assoc]; rfl
        · have e : putsN ((c, p) :: N) = putsV p c.value ++ putsN N := by simp [putsN]
          have e2 : ∀ a b, putA (a ++ b) = putA a ++ putA b := fun a b => by simp [putA]
          rw [k3, e, e2, List.append_assoc]; rfl
        · rw [List.flatMap_cons, ← List.append_assoc]; exact k4
        · rcases List.mem_cons.1 hx with rfl | hx
          · exact ⟨t2, t3, (may_check t4 hp).2⟩
          · exact k5 x hx
      · rw [if_neg h1, if_pos h2] at h
        exact absurd h h2
theorem range_getD (l : List Int) : (List.range l.length).map (fun i => l.getD i 0) = l := by
  refine List.ext_getElem (by simp) (fun i h1 h2 => ?_)
  rw [List.getElem_map, List.getElem_range, List.getD_eq_getElem?_getD, List.getElem?_eq_getElem h2]
  rfl
theorem putsV_sector (p : List Piece) (v : Bs) : (putsV p v).map (·.sector) = sectE p := by
  unfold putsV
  rw [List.map_map]
  exact range_getD _
theorem secV_length (v : Bs) (i : Nat) : (secV v i).length = 128 := by
  unfold secV
  simp only [List.length_append, List.length_replicate, List.length_take, List.length_drop]
  omega
theorem putsN_sector {N : List New1} (h : ∀ x ∈ N, checkR 4096 x.2 = 0) : (putsN N).map (·.sector) = sectF (N.flatMap (·.2)) := by
  induction N with
  | nil => rfl
  | cons x N ih =>
    rw [putsN, List.flatMap_cons, List.map_append, putsV_sector, List.flatMap_cons, sect_append]
    have e : sectE x.2 = sectF x.2 := by unfold sectE; rw [if_pos (h x (by simp))]
    rw [e]
    congr 1
    exact ih (fun y hy => h y (by simp [hy]))
theorem putsN_ok {n : Nat} {used : List Piece} {N : List New1} (hm : mayP (n : Int) (used ++ N.flatMap (·.2))) (h : ∀ x ∈ N, (∀ q ∈ x.2, 80 ≤ q.fr) ∧ totalF x.2 = needF x.1.value.length ∧ checkR 4096 x.2 = 0) :
    (∀ p ∈ putsN N, 80 ≤ p.sector ∧ p.sector < (n : Int) ∧ p.data.length = 128 ∧ p.sector ∉ sectF used) ∧ (putsN N).Pairwise (fun p q => p.sector ≠ q.sector) ∧ (putsN N).length ≤ n := by
  have hs := putsN_sector (fun x hx => (h x hx).2.2)
  have hm2 := may_sub (List.sublist_append_right used _) hm
  have hn : (putsN N).Pairwise (fun p q => p.sector ≠ q.sector) := by
    rw [← List.pairwise_map (f := disk.Put.sector) (R := fun a b => a ≠ b), hs]
    exact sect_nodup (may_pos hm2) hm2.2
  refine ⟨fun p hp => ?_, hn, ?_⟩
  · have hmem : p.sector ∈ sectF (N.flatMap (·.2)) := by rw [← hs]; exact List.mem_map.2 ⟨p, hp, rfl⟩
    obtain ⟨q, hq, h1, h2⟩ := (sect_mem (may_pos hm2)).1 hmem
    have hok := hm2.1 q hq
    unfold okP at hok
    obtain ⟨x, hx, hqx⟩ := List.mem_flatMap.1 hq
    have h80 := (h x hx).1 q hqx
    refine ⟨by omega, by omega, ?_, fun hu => ?_⟩
    · obtain ⟨y, hy, hpy⟩ := List.mem_flatMap.1 hp
      unfold putsV at hpy
      obtain ⟨i, _, rfl⟩ := List.mem_map.1 hpy
      exact secV_length _ _
    · obtain ⟨r, hr, h3, h4⟩ := (sect_mem (may_pos (may_sub (List.sublist_append_left used _) hm))).1 hu
      have := (List.pairwise_append.1 hm.2).2.2 r hr q hq
      unfold apart at this
      omega
  · have e : (putsN N).length = (sectF (N.flatMap (·.2))).length := by rw [← hs, List.length_map]
    have h1 := sect_total (may_pos hm2)
    have h2 := (may_length hm2).2
    omega
theorem secs_take (v : Bs) : ∀ n, ((List.range n).flatMap (secV v)).take v.length = v.take (n * 128)
  | 0 => by simp
  | n + 1 => by
    have ih := secs_take v n
    have hl : ((List.range n).flatMap (secV v)).length = n * 128 := flat_length n (fun i _ => secV_length v i)
    rw [List.range_succ, List.flatMap_append, List.flatMap_cons, List.flatMap_nil, List.append_nil, Nat.succ_mul]
    by_cases h : v.length ≤ n * 128
    · rw [List.take_append_of_le_length (by omega), ih, List.take_of_length_le h, List.take_of_length_le (by omega)]
    · rw [List.take_append, ih, hl, List.take_add]
      congr 1
      unfold secV
      by_cases h2 : 128 ≤ v.length - n * 128
      · have e : ((v.drop (n * 128)).take 128).length = 128 := by rw [List.length_take, List.length_drop]; omega
        rw [e, Nat.sub_self, List.replicate_zero, List.append_nil, List.take_of_length_le (by omega)]
      · have e : ((v.drop (n * 128)).take 128).length = v.length - n * 128 := by rw [List.length_take, List.length_drop]; omega
        rw [List.take_append_of_le_length (by omega), List.take_of_length_le (by omega)]
theorem bytes_new {y : Disk} {x : New1} (ht : totalF x.2 = needF x.1.value.length) (hc : checkR 4096 x.2 = 0) (h : ∀ p ∈ putsV x.2 x.1.value, disk.readF y p.sector = p.data) : bytesF y (fileOf x) = x.1.value := by
  unfold bytesF fileOf
  simp only
  have hk : ((sectE x.2).length : Int) = needF x.1.value.length := by
    unfold sectE
    rw [if_pos hc, ← ht]
    exact sect_total (fun p hp => by have := (check_ok hc).2.2.2.1 p hp; unfold okP at this; omega)
  have e : (sectE x.2).flatMap (fun n => disk.readF y n) = (List.range (sectE x.2).length).flatMap (secV x.1.value) := by
    conv => lhs; rw [← range_getD (sectE x.2)]
    rw [List.flatMap_map]
    exact flat_congr _ (fun i hi => h ⟨(sectE x.2).getD i 0, secV x.1.value i⟩ (by unfold putsV; exact List.mem_map.2 ⟨i, List.mem_range.2 hi, rfl⟩))
  rw [e, Int.toNat_natCast, secs_take, List.take_of_length_le]
  unfold needF at hk
  omega
theorem bytes_old {d y : Disk} {f : File} (h : ∀ n ∈ sectE f.ps, disk.readF y n = disk.readF d n) : bytesF y f = bytesF d f := by
  unfold bytesF
  congr 1
  rw [List.flatMap_def, List.flatMap_def]
  congr 1
  exact List.map_congr_left h
theorem fread_length {d : Disk} (h : disk.checkF d = 0) {n : Int} (h0 : 0 ≤ n) (hn : n < d.count) : (disk.readF d n).length = 128 := by
  obtain ⟨k1, k2, k3, k4, k5⟩ := disk.check_ok h
  unfold disk.readF
  cases hl : disk.lastOf d.waits n with
  | some b =>
    obtain ⟨p, hp, h1, h2⟩ := lastOf_some hl
    rw [← h2]
    exact (k5 p hp).2.2
  | none =>
    show ((d.data.drop _).take 128).length = 128
    rw [List.length_take, List.length_drop]
    omega
end files
end Go.Proofs.YtpfehnopghffjaaGreatDoor
namespace Go.Proofs.YtpfehnopghffjaaGreatDoor
open Go
namespace files
open room
theorem slot_same {d y : Disk} {n : Nat} (h : ∀ i, i < 8 → disk.readF y ((n + i : Nat) : Int) = disk.readF d ((n + i : Nat) : Int)) : slotB y n = slotB d n := flat_congr 8 h
theorem slot_new {y : Disk} {b : Bs} {n : Nat} (hb : b.length = 1024) (h : ∀ i, i < 8 → disk.readF y ((n + i : Nat) : Int) = (b.drop (i * 128)).take 128) : slotB y n = b := by
  unfold slotB
  rw [flat_congr 8 h, take_blocks, List.take_of_length_le (by omega)]
theorem slot_sec {y : Disk} (hc : disk.checkF y = 0) {n : Nat} (hn : ((n + 8 : Nat) : Int) ≤ y.count) {i : Nat} (hi : i < 8) : ((slotB y n).drop (i * 128)).take 128 = disk.readF y ((n + i : Nat) : Int) :=
  flat_block (f := fun i => disk.readF y ((n + i : Nat) : Int)) 8 (fun j hj => fread_length hc (by omega) (by omega)) i hi
theorem slot_ok_same {d y : Disk} {n : Nat} (hct : y.count = d.count) (h : slotB y n = slotB d n) : slotF y n = slotF d n ∧ (slotOK y n ↔ slotOK d n) := by
  have e : slotF y n = slotF d n := by unfold slotF; rw [h]
  refine ⟨e, ?_⟩
  unfold slotOK
  rw [e, h, hct]
theorem mount_eq {d : Disk} (h : (mountF d).2.2 = 0) : mountF d = (slotF d (mountF d).2.1, (mountF d).2.1, 0) := by
  obtain ⟨_, _, _, _, h5⟩ := mountF_ok h
  rw [← h5, ← h]
theorem mount_same {d y : Disk} (hd : (mountF d).2.2 = 0) (hy : disk.checkF y = 0) (hct : y.count = d.count) (h : ∀ i : Nat, i < 16 → disk.readF y (i : Int) = disk.readF d (i : Int)) : mountF y = mountF d := by
  obtain ⟨h1, h2, _⟩ := mountF_ok hd
  obtain ⟨e0, o0⟩ := slot_ok_same hct (slot_same (d := d) (y := y) (n := 0) (fun i hi => h (0 + i) (by omega)))
  obtain ⟨e8, o8⟩ := slot_ok_same hct (slot_same (d := d) (y := y) (n := 8) (fun i hi => h (8 + i) (by omega)))
  by_cases h3 : slotOK d 0 ∧ ¬ (slotOK d 8 ∧ (slotF d 0).gen < (slotF d 8).gen)
  · rw [mountF_0 h1 (by omega) h3.1 h3.2, mountF_0 hy (by omega) (o0.2 h3.1) (by rw [o8, e0, e8]; exact h3.2), e0]
  · by_cases h4 : slotOK d 8
    · rw [mountF_8 h1 (by omega) h3 h4, mountF_8 hy (by omega) (by rw [o0, o8, e0, e8]; exact h3) (o8.2 h4), e8]
    · exfalso
      rw [mountF_40 h1 (by omega) (fun h => h3 ⟨h, fun x => h4 x.1⟩) h4] at hd
      cases hd
theorem mount_old {d y : Disk} (hd : (mountF d).2.2 = 0) (hy : disk.checkF y = 0) (hct : y.count = d.count) (hat : ∀ i, i < 8 → disk.readF y (((mountF d).2.1 + i : Nat) : Int) = disk.readF d (((mountF d).2.1 + i : Nat) : Int)) (hno : ¬ slotOK y (8 - (mountF d).2.1)) : mountF y = mountF d := by
  obtain ⟨h1, h2, h3, h4, _⟩ := mountF_ok hd
  rw [mount_eq hd]
  obtain ⟨e, o⟩ := slot_ok_same hct (slot_same hat)
  rcases h3 with h3 | h3
  · rw [h3] at hno e o h4 ⊢
    rw [mountF_0 hy (by omega) (o.2 h4) (fun h => hno h.1), e]
  · rw [h3] at hno e o h4 ⊢
    rw [mountF_8 hy (by omega) (fun h => hno h.1) (o.2 h4), e]
theorem mount_new {d y : Disk} {x : Dir} {b : Bs} (hd : (mountF d).2.2 = 0) (hy : disk.checkF y = 0) (hct : y.count = d.count) (hat : ∀ i, i < 8 → disk.readF y (((mountF d).2.1 + i : Nat) : Int) = disk.readF d (((mountF d).2.1 + i : Nat) : Int))
    (hnew : ∀ i, i < 8 → disk.readF y ((8 - (mountF d).2.1 + i : Nat) : Int) = (b.drop (i * 128)).take 128) (hw : writeF x = (b, 0)) (hck : checkR d.count (allP x.fs) = 0) (hg : (mountF d).1.gen < x.gen) : mountF y = (x, 8 - (mountF d).2.1, 0) := by
  obtain ⟨h1, h2, h3, h4, h5⟩ := mountF_ok hd
  obtain ⟨e, o⟩ := slot_ok_same hct (slot_same hat)
  have hsb := slot_new (writeF_len hw) hnew
  have hr := read_write hw
  have en : slotF y (8 - (mountF d).2.1) = x := by unfold slotF; rw [hsb, hr]
  have on : slotOK y (8 - (mountF d).2.1) := by unfold slotOK; rw [en, hsb, hr, hct]; exact ⟨rfl, hck⟩
  rw [h5] at hg
  rcases h3 with h3 | h3
  · rw [h3] at e o h4 en on hg ⊢
    rw [mountF_8 hy (by omega) (fun h => h.2 ⟨on, by rw [e, en]; exact hg⟩) on, en]
  · rw [h3] at e o h4 en on hg ⊢
    rw [mountF_0 hy (by omega) on (fun h => by rw [en, e] at h; omega), en]
theorem genTo_le (d : Disk) (o : Nat) (g : Int) : ∀ k, g ≤ genTo d o g k
  | 0 => Int.le_refl _
  | k + 1 => by
    have := genTo_le d o g k
    rw [genTo]
    split <;> omega
theorem genTo_get (d : Disk) (o : Nat) (g : Int) : ∀ k i, i < k → getTo ((disk.readF d ((o + i : Nat) : Int)).take 8) 8 < 4611686018427387904 → (getTo ((disk.readF d ((o + i : Nat) : Int)).take 8) 8 : Int) ≤ genTo d o g k
  | k + 1, i, hi, h => by
    rw [genTo]
    by_cases he : i = k
    · subst he
      rw [if_pos h]
      omega
    · have := genTo_get d o g k i (by omega) h
      split <;> omega
theorem genTo_bd (d : Disk) (o : Nat) (g : Int) (hg : g < 4611686018427387904) : ∀ k, genTo d o g k < 4611686018427387904
  | 0 => hg
  | k + 1 => by
    have := genTo_bd d o g hg k
    rw [genTo]
    split <;> omega
theorem write_gen {x : Dir} {b : Bs} (h : writeF x = (b, 0)) {i : Nat} (hi : i < 8) : (getTo (((b.drop (i * 128)).take 128).take 8) 8 : Int) = x.gen := by
  obtain ⟨hc, hb, rfl⟩ := writeF_ok h
  obtain ⟨_, hm⟩ := checkD_ok hc
  have hg := hm.1
  have hl : (bodyD x.fs ++ List.replicate (952 - (bodyD x.fs).length) (0 : UInt8)).length = 952 := by rw [List.length_append, List.length_replicate]; omega
  rw [slotsD_sec hl hi]
  unfold secD
  rw [List.append_assoc, List.take_left' (put8_length _)]
  have := getTo_put8 (n := x.gen.toNat) [] (by omega)
  rw [List.append_nil] at this
  rw [this]
  omega
theorem mix_bad {d y : Disk} {x : Dir} {b : Bs} {o : Nat} (hc : disk.checkF y = 0) (ho : ((o + 8 : Nat) : Int) ≤ y.count) (hw : writeF x = (b, 0))
    (hg : ∀ i, i < 8 → getTo ((disk.readF d ((o + i : Nat) : Int)).take 8) 8 < 4611686018427387904 → (getTo ((disk.readF d ((o + i : Nat) : Int)).take 8) 8 : Int) < x.gen)
    (hmix : ∀ i, i < 8 → disk.readF y ((o + i : Nat) : Int) = disk.readF d ((o + i : Nat) : Int) ∨ disk.readF y ((o + i : Nat) : Int) = (b.drop (i * 128)).take 128)
    {i0 i1 : Nat} (h0 : i0 < 8) (h1 : i1 < 8) (hn : ¬ disk.readF y ((o + i0 : Nat) : Int) = (b.drop (i0 * 128)).take 128) (hy : disk.readF y ((o + i1 : Nat) : Int) = (b.drop (i1 * 128)).take 128) : ¬ slotOK y o := by
  intro hs
  obtain ⟨hwr, _, hm, _⟩ := slot_may hs
  have key : ∀ i, i < 8 → (getTo ((disk.readF y ((o + i : Nat) : Int)).take 8) 8 : Int) = (slotF y o).gen := fun i hi => by
    have := write_gen hwr hi
    rwa [slot_sec hc ho hi] at this
  have k1 := key i1 h1
  rw [hy, write_gen hw h1] at k1
  have k0 := key i0 h0
  rcases hmix i0 h0 with h | h
  · rw [h] at k0
    have := hm.1.2
    have := hg i0 h0 (by omega)
    omega
  · exact hn h
theorem filter_flat {α β : Type} (p : α → Bool) (f : α → List β) : ∀ l : List α, List.Sublist ((l.filter p).flatMap f) (l.flatMap f)
  | [] => .slnil
  | a :: l => by
    rw [List.filter_cons]
    split
    · rw [List.flatMap_cons, List.flatMap_cons]
      exact List.Sublist.append (List.Sublist.refl _) (filter_flat p f l)
    · rw [List.flatMap_cons]
      exact (filter_flat p f l).trans (List.sublist_append_right _ _)
theorem flatMap_fileOf (N : List New1) : allP (N.map fileOf) = N.flatMap (·.2) := by
  unfold allP
  rw [List.flatMap_map]
  rfl
structure Turned (d : Disk) (l : List Change) (N : List New1) (b : Bs) : Prop where
  mt : (mountF d).2.2 = 0
  wr : wrongF (mountF d).1 l = 0
  fr : N.map (·.1) = freshN l
  may : mayP (d.count.toNat : Int) (allP (mountF d).1.fs ++ N.flatMap (·.2))
  each : ∀ x ∈ N, (∀ q ∈ x.2, 80 ≤ q.fr) ∧ totalF x.2 = needF x.1.value.length ∧ checkR 4096 x.2 = 0
  wrt : writeF (turnD d (mountF d).1 (mountF d).2.1 (keepN (mountF d).1 l ++ N.map fileOf)) = (b, 0)
  acts : (turnF d l).1 = actsSD (putsN N) (dirP b (8 - (mountF d).2.1))
theorem actsN_eq (S : List disk.Put) (b : Bs) (o : Nat) : actsN (putA S) b o = actsSD S (dirP b o) := by
  unfold actsN actsSD flushS dirA
  have e : (putA S = []) ↔ (S = []) := by unfold putA; simp
  by_cases h : S = []
  · rw [if_pos h, if_pos (e.2 h)]
  · rw [if_neg h, if_neg (fun x => h (e.1 x))]
theorem turnF_w {d : Disk} {l : List Change} (h1 : (mountF d).2.2 = 0) (h2 : wrongF (mountF d).1 l = 0) (h3 : ¬ 32 < (keepN (mountF d).1 l).length + (freshN l).length) (h4 : (putsF d.count (freshN l) (keepN (mountF d).1 l) [] (allP (mountF d).1.fs)).2.2 = 0) :
    turnF d l = if ¬ (writeF (turnD d (mountF d).1 (mountF d).2.1 (putsF d.count (freshN l) (keepN (mountF d).1 l) [] (allP (mountF d).1.fs)).1)).2 = 0 then ([], 42) else
      (actsN (putsF d.count (freshN l) (keepN (mountF d).1 l) [] (allP (mountF d).1.fs)).2.1 (writeF (turnD d (mountF d).1 (mountF d).2.1 (putsF d.count (freshN l) (keepN (mountF d).1 l) [] (allP (mountF d).1.fs)).1)).1 (8 - (mountF d).2.1), 0) := by
  unfold turnF
  rw [if_neg (fun x => x h1), if_neg (fun x => x h2), if_neg h3, if_neg (fun x => x h4)]
theorem turned_of {d : Disk} {l : List Change} (h : (turnF d l).2 = 0) : ∃ N b, Turned d l N b := by
  by_cases h1 : (mountF d).2.2 = 0
  · by_cases h2 : wrongF (mountF d).1 l = 0
    · by_cases h3 : 32 < (keepN (mountF d).1 l).length + (freshN l).length
      · unfold turnF at h; rw [if_neg (fun x => x h1), if_neg (fun x => x h2), if_pos h3] at h; cases h
      · by_cases h4 : (putsF d.count (freshN l) (keepN (mountF d).1 l) [] (allP (mountF d).1.fs)).2.2 = 0
        · have hm := mount_may h1
          have hct : ((d.count.toNat : Nat) : Int) = d.count := Int.toNat_of_nonneg (by omega)
          have hck := (check_ok hm.2.2.2.2.1).2.2.2
          rw [← hct] at hck h4
          obtain ⟨N, k1, k2, k3, k4, k5⟩ := puts_ok (freshN l) hck h4
          rw [hct] at h4 k2 k3
          have ha := turnF_w h1 h2 h3 h4
          rw [k2, k3] at ha
          rw [ha] at h
          by_cases h5 : (writeF (turnD d (mountF d).1 (mountF d).2.1 (keepN (mountF d).1 l ++ N.map fileOf))).2 = 0
          · rw [if_neg (fun x => x h5)] at ha
            have ha := congrArg Prod.fst ha
            refine ⟨N, (writeF (turnD d (mountF d).1 (mountF d).2.1 (keepN (mountF d).1 l ++ N.map fileOf))).1, h1, h2, k1, k4, k5, Prod.ext rfl h5, ?_⟩
            rw [ha, List.nil_append, actsN_eq]
          · rw [if_pos h5] at h; cases h
        · unfold turnF at h; rw [if_neg (fun x => x h1), if_neg (fun x => x h2), if_neg h3, if_pos h4] at h; exact absurd h h4
    · unfold turnF at h; rw [if_neg (fun x => x h1), if_pos h2] at h; exact absurd h h2
  · unfold turnF at h; rw [if_pos h1] at h; exact absurd h h1
section
variable {d : Disk} {l : List Change} {N : List New1} {b : Bs}
theorem Turned.count (h : Turned d l N b) : ((d.count.toNat : Nat) : Int) = d.count := by have := (mount_may h.mt).2.1; exact Int.toNat_of_nonneg (by omega)
theorem Turned.at_ (h : Turned d l N b) : (mountF d).2.1 = 0 ∨ (mountF d).2.1 = 8 := (mountF_ok h.mt).2.2.1
theorem Turned.ck (h : Turned d l N b) : checkR d.count (allP (turnD d (mountF d).1 (mountF d).2.1 (keepN (mountF d).1 l ++ N.map fileOf)).fs) = 0 := by
  have hc := (check_ok (mount_may h.mt).2.2.2.2.1).2.1
  have hct := h.count
  rw [← hct]
  refine (may_check (by omega) ?_).1
  have e : (turnD d (mountF d).1 (mountF d).2.1 (keepN (mountF d).1 l ++ N.map fileOf)).fs = sortN (keepN (mountF d).1 l ++ N.map fileOf) := rfl
  rw [e]
  refine may_perm (m := allP (keepN (mountF d).1 l ++ N.map fileOf)) (sortN_perm.flatMap_right _) ?_
  have e2 : allP (keepN (mountF d).1 l ++ N.map fileOf) = allP (keepN (mountF d).1 l) ++ N.flatMap (·.2) := by rw [← flatMap_fileOf]; simp [allP]
  rw [e2]
  exact may_sub (List.Sublist.append (filter_flat _ _ _) (List.Sublist.refl _)) h.may
theorem Turned.gen (h : Turned d l N b) : (mountF d).1.gen < (turnD d (mountF d).1 (mountF d).2.1 (keepN (mountF d).1 l ++ N.map fileOf)).gen := by
  show _ < genTo d (8 - (mountF d).2.1) (mountF d).1.gen 8 + 1
  have := genTo_le d (8 - (mountF d).2.1) (mountF d).1.gen 8
  omega
theorem Turned.gens (h : Turned d l N b) : ∀ i, i < 8 → getTo ((disk.readF d ((8 - (mountF d).2.1 + i : Nat) : Int)).take 8) 8 < 4611686018427387904 → (getTo ((disk.readF d ((8 - (mountF d).2.1 + i : Nat) : Int)).take 8) 8 : Int) < (turnD d (mountF d).1 (mountF d).2.1 (keepN (mountF d).1 l ++ N.map fileOf)).gen := fun i hi hb => by
  show _ < genTo d (8 - (mountF d).2.1) (mountF d).1.gen 8 + 1
  have := genTo_get d (8 - (mountF d).2.1) (mountF d).1.gen 8 i hi hb
  omega
theorem Turned.okS (h : Turned d l N b) : (∀ p ∈ putsN N, 80 ≤ p.sector ∧ p.sector < d.count ∧ p.data.length = 128 ∧ p.sector ∉ sectF (allP (mountF d).1.fs)) ∧ (putsN N).Pairwise (fun p q => p.sector ≠ q.sector) ∧ ((putsN N).length : Int) ≤ d.count := by
  obtain ⟨h1, h2, h3⟩ := putsN_ok h.may h.each
  rw [h.count] at h1
  have := h.count
  exact ⟨h1, h2, by omega⟩
theorem Turned.putsS (h : Turned d l N b) : OkPuts d (putsN N) := fun p hp => by have := h.okS.1 p hp; exact ⟨by omega, this.2.1, this.2.2.1⟩
theorem dirP_mem {b : Bs} {o : Nat} {p : disk.Put} : p ∈ dirP b o ↔ ∃ i, i < 8 ∧ p = ⟨((o + i : Nat) : Int), (b.drop (i * 128)).take 128⟩ := by
  unfold dirP
  rw [List.mem_map]
  exact ⟨fun ⟨i, hi, e⟩ => ⟨i, List.mem_range.1 hi, e.symm⟩, fun ⟨i, hi, e⟩ => ⟨i, List.mem_range.2 hi, e.symm⟩⟩
theorem Turned.putsD (h : Turned d l N b) : OkPuts d (dirP b (8 - (mountF d).2.1)) := fun p hp => by
  obtain ⟨i, hi, rfl⟩ := dirP_mem.1 hp
  have h2 := (mount_may h.mt).2.1
  have h3 := h.at_
  have hl := writeF_len h.wrt
  refine ⟨by show (0 : Int) ≤ ((_ : Nat) : Int); omega, by show ((_ : Nat) : Int) < _; omega, ?_⟩
  show (List.take _ _).length = _
  rw [List.length_take, List.length_drop]
  omega
theorem dirP_last {b : Bs} {o i : Nat} (hi : i < 8) : disk.lastOf (dirP b o) ((o + i : Nat) : Int) = some ((b.drop (i * 128)).take 128) := by
  have hp : (dirP b o).Pairwise (fun p q => p.sector ≠ q.sector) := by
    unfold dirP
    rw [List.pairwise_map]
    refine List.pairwise_lt_range.imp (fun {a c} h e => ?_)
    have e : ((o + a : Nat) : Int) = ((o + c : Nat) : Int) := e
    omega
  exact lastOf_of hp (dirP_mem.2 ⟨i, hi, rfl⟩)
theorem dirP_none {b : Bs} {o : Nat} {n : Int} (h : n < o ∨ ((o + 8 : Nat) : Int) ≤ n) : ∀ p ∈ dirP b o, ¬ p.sector = n := fun p hp e => by
  obtain ⟨i, hi, rfl⟩ := dirP_mem.1 hp
  have e : ((o + i : Nat) : Int) = n := e
  omega
def Holds (y : Disk) (v : List NV) : Prop := (mountF y).2.2 = 0 ∧ viewF y = v
theorem sectE_sub {f : File} (hf : f ∈ (mountF d).1.fs) {n : Int} (hn : n ∈ sectE f.ps) : n ∈ sectF (allP (mountF d).1.fs) := by
  unfold sectE at hn
  split at hn
  · unfold sectF at hn ⊢
    obtain ⟨p, hp, h⟩ := List.mem_flatMap.1 hn
    exact List.mem_flatMap.2 ⟨p, List.mem_flatMap.2 ⟨f, hf, hp⟩, h⟩
  · cases hn
theorem Turned.sect (h : Turned d l N b) {n : Int} (hn : n ∈ sectF (allP (mountF d).1.fs)) : 80 ≤ n ∧ n < d.count ∧ ∀ p ∈ putsN N, ¬ p.sector = n := by
  obtain ⟨_, _, _, hm, hck, _⟩ := mount_may h.mt
  have hmp := (check_ok hck).2.2.2
  obtain ⟨q, hq, h1, h2⟩ := (sect_mem (may_pos hmp)).1 hn
  have h3 := hmp.1 q hq
  have h4 := hm.2.2.1 q hq
  unfold okP at h3
  exact ⟨by omega, by omega, fun p hp e => (h.okS.1 p hp).2.2.2 (by rw [e]; exact hn)⟩
theorem Turned.before (h : Turned d l N b) {y : Disk} (hy : disk.checkF y = 0) (hct : y.count = d.count) (hm : mountF y = mountF d) (hs : ∀ n, 80 ≤ n → n < d.count → (∀ p ∈ putsN N, ¬ p.sector = n) → disk.readF y n = disk.readF d n) : Holds y (viewF d) := by
  refine ⟨by rw [hm]; exact h.mt, ?_⟩
  unfold viewF
  rw [hm]
  refine List.map_congr_left (fun f hf => ?_)
  rw [bytes_old (fun n hn => ?_)]
  obtain ⟨h1, h2, h3⟩ := h.sect (sectE_sub hf hn)
  exact hs n h1 h2 h3
theorem Turned.behind (h : Turned d l N b) {y : Disk} (hy : disk.checkF y = 0) (hct : y.count = d.count) (hr : ∀ n, 0 ≤ n → n < d.count → (n < ((8 - (mountF d).2.1 : Nat) : Int) ∨ ((8 - (mountF d).2.1 + 8 : Nat) : Int) ≤ n) → disk.readF y n = match disk.lastOf (putsN N) n with | some x => x | none => disk.readF d n)
    (hn : ∀ i, i < 8 → disk.readF y ((8 - (mountF d).2.1 + i : Nat) : Int) = (b.drop (i * 128)).take 128) : mountF y = (turnD d (mountF d).1 (mountF d).2.1 (keepN (mountF d).1 l ++ N.map fileOf), 8 - (mountF d).2.1, 0) ∧ Holds y (map2F d l) := by
  have h2 := (mount_may h.mt).2.1
  have h3 := h.at_
  have hmt : mountF y = (turnD d (mountF d).1 (mountF d).2.1 (keepN (mountF d).1 l ++ N.map fileOf), 8 - (mountF d).2.1, 0) := by
    refine mount_new h.mt hy hct (fun i hi => ?_) hn h.wrt h.ck h.gen
    rw [hr _ (by omega) (by omega) (by omega), lastOf_none (fun p hp e => by have := (h.okS.1 p hp).1; omega)]
  refine ⟨hmt, by rw [hmt], ?_⟩
  refine view_turned h.mt h.wr (news := N.map fileOf) (by rw [hmt]; rfl) ?_ (fun f hf => bytes_old (fun n hn => ?_)) (by rw [hmt])
  · rw [← h.fr, List.map_map, List.map_map]
    refine List.map_congr_left (fun x hx => ?_)
    show ((fileOf x).name, bytesF y (fileOf x)) = (x.1.key, x.1.value)
    rw [bytes_new (h.each x hx).2.1 (h.each x hx).2.2 (fun p hp => ?_)]
    · rfl
    · have hp2 : p ∈ putsN N := List.mem_flatMap.2 ⟨x, hx, hp⟩
      have h4 := h.okS.1 p hp2
      rw [hr _ (by omega) (by omega) (by omega), lastOf_of h.okS.2.1 hp2]
  · obtain ⟨h5, h6, h7⟩ := h.sect (sectE_sub (List.mem_filter.1 hf).1 hn)
    rw [hr _ (by omega) (by omega) (by omega), lastOf_none h7]
theorem Turned.crash (h : Turned d l N b) (hw : d.waits = []) {n : Nat} (hn : n ≤ (turnF d l).1.length) : ∃ x, disk.doF d ((turnF d l).1.take n) = (x, 0) ∧ disk.checkF x = 0 ∧ x.count = d.count ∧ (n = (turnF d l).1.length → x.waits = [] ∧ Holds x (map2F d l)) ∧
    ∀ keep, Holds (disk.settleD x keep) (map2F d l) ∨ n < (turnF d l).1.length ∧ Holds (disk.settleD x keep) (viewF d) := by
  have hc := (mount_may h.mt).1
  have h2 := (mount_may h.mt).2.1
  have h3 := h.at_
  have hc4 := (check_ok (mount_may h.mt).2.2.2.2.1).2.1
  have hSl : (putsN N).length ≤ 4096 := by have := h.okS.2.2; omega
  have hDl : (dirP b (8 - (mountF d).2.1)).length ≤ 4096 := by unfold dirP; simp
  rw [h.acts] at hn ⊢
  obtain ⟨x, k1, k2, k3, k4, k5⟩ := do_take hc hw h.putsS h.putsD hSl hDl hn
  have hfull : ∀ {y : Disk}, disk.checkF y = 0 → y.count = d.count → (∀ m, 0 ≤ m → m < d.count → disk.readF y m = disk.readF (waitD d (putsN N ++ dirP b (8 - (mountF d).2.1))) m) → Holds y (map2F d l) := fun {y} hy hct hr => by
    refine (h.behind hy hct (fun m h0 hm hno => ?_) (fun i hi => ?_)).2
    · rw [hr m h0 hm, read_wait_app, lastOf_none (dirP_none hno)]
      exact read_wait d _ m hw
    · rw [hr _ (by omega) (by omega), read_wait_app, dirP_last hi]
  refine ⟨x, k1, k2, k3, fun e => ⟨(k4 e).1, hfull k2 k3 (k4 e).2⟩, fun keep => ?_⟩
  obtain ⟨j1, j2⟩ := k5 keep
  have hy := disk.check_settle k2 keep
  have hct : (disk.settleD x keep).count = d.count := k3
  by_cases hne : n = (actsSD (putsN N) (dirP b (8 - (mountF d).2.1))).length
  · exact .inl (hfull hy hct (j2 hne))
  · generalize disk.settleD x keep = y at *
    have hlt : n < (actsSD (putsN N) (dirP b (8 - (mountF d).2.1))).length := by omega
    rcases j1 with j1 | j1
    · refine .inr ⟨hlt, h.before hy hct (mount_same h.mt hy hct (fun i hi => j1 _ (by omega) (by omega) (fun p hp e => by have := (h.okS.1 p hp).1; omega))) (fun m h0 hm hno => j1 m (by omega) hm hno)⟩
    · have hS : ∀ m, 0 ≤ m → m < d.count → (m < ((8 - (mountF d).2.1 : Nat) : Int) ∨ ((8 - (mountF d).2.1 + 8 : Nat) : Int) ≤ m) → disk.readF y m = match disk.lastOf (putsN N) m with | some x => x | none => disk.readF d m := fun m h0 hm hno => by
        rcases j1 m h0 hm with j | ⟨p, hp, e, _⟩
        · rw [j]; exact read_wait d _ m hw
        · exact absurd e (dirP_none hno p hp)
      have hD : ∀ i, i < 8 → disk.readF y ((8 - (mountF d).2.1 + i : Nat) : Int) = disk.readF d ((8 - (mountF d).2.1 + i : Nat) : Int) ∨ disk.readF y ((8 - (mountF d).2.1 + i : Nat) : Int) = (b.drop (i * 128)).take 128 := fun i hi => by
        rcases j1 ((8 - (mountF d).2.1 + i : Nat) : Int) (by omega) (by omega) with j | ⟨p, hp, e, e2⟩
        · left
          rw [j, read_wait_no hw (fun p hp e => by have := (h.okS.1 p hp).1; omega)]
        · right
          obtain ⟨k, hk, rfl⟩ := dirP_mem.1 hp
          have e : ((8 - (mountF d).2.1 + k : Nat) : Int) = ((8 - (mountF d).2.1 + i : Nat) : Int) := e
          obtain rfl : k = i := by omega
          exact e2.symm
      by_cases hall : ∀ i, i < 8 → disk.readF y ((8 - (mountF d).2.1 + i : Nat) : Int) = (b.drop (i * 128)).take 128
      · exact .inl (h.behind hy hct hS hall).2
      · refine .inr ⟨hlt, ?_⟩
        have hbef : mountF y = mountF d → Holds y (viewF d) := fun hm => h.before hy hct hm (fun m h0 hm hno => by rw [hS m (by omega) hm (by omega), lastOf_none hno])
        have hat : ∀ i, i < 8 → disk.readF y (((mountF d).2.1 + i : Nat) : Int) = disk.readF d (((mountF d).2.1 + i : Nat) : Int) := fun i hi => by
          rw [hS _ (by omega) (by omega) (by omega), lastOf_none (fun p hp e => by have := (h.okS.1 p hp).1; omega)]
        by_cases hno : ∀ i, i < 8 → disk.readF y ((8 - (mountF d).2.1 + i : Nat) : Int) = disk.readF d ((8 - (mountF d).2.1 + i : Nat) : Int)
        · refine hbef (mount_same h.mt hy hct (fun i hi => ?_))
          by_cases hi2 : (8 - (mountF d).2.1) ≤ i ∧ i < 8 - (mountF d).2.1 + 8
          · have := hno (i - (8 - (mountF d).2.1)) (by omega)
            rwa [show 8 - (mountF d).2.1 + (i - (8 - (mountF d).2.1)) = i by omega] at this
          · have := hat (i - (mountF d).2.1) (by omega)
            rwa [show (mountF d).2.1 + (i - (mountF d).2.1) = i by omega] at this
        · obtain ⟨i0, hi0⟩ := Classical.not_forall.1 hall
          obtain ⟨h8, hi0⟩ := Classical.not_imp.1 hi0
          obtain ⟨i1, hi1⟩ := Classical.not_forall.1 hno
          obtain ⟨h9, hi1⟩ := Classical.not_imp.1 hi1
          exact hbef (mount_old h.mt hy hct hat (mix_bad hy (by omega) h.wrt h.gens hD h8 h9 hi0 ((hD i1 h9).resolve_left hi1)))
end
end files
end Go.Proofs.YtpfehnopghffjaaGreatDoor
