import Derived.Test.YthliepcjfnjnoaaGreatDoorB05
import Derived.Test.YthliepcjfnjnoaaGreatDoorB04
import Derived.MapKept
set_option linter.unusedVariables false
set_option linter.unusedSimpArgs false
set_option maxRecDepth 20000
namespace Go.Proofs.YthliepcjfnjnoaaGreatDoor
open Go page
namespace tree
def entV (x : Entry) : Value := .agg #[str x.key, str x.value, i64 x.seq, .bool x.gone]
def noE : Entry := ⟨[], [], 0, false⟩
def cmpE (a b : Entry) : Int := if lessE a b = true then -1 else if lessE b a = true then 1 else 0
theorem cmpE_lt {a b : Entry} : cmpE a b < 0 ↔ lessE a b = true := by
  unfold cmpE
  by_cases h : lessE a b = true
  · rw [if_pos h]; exact ⟨fun _ => h, fun _ => by decide⟩
  · rw [if_neg h]
    refine ⟨fun hx => ?_, fun hx => absurd hx h⟩
    split at hx <;> exact absurd hx (by decide)
theorem chk_sorted : ∀ {l : List Entry} {p : Option Entry}, chk p l = 0 → l.Pairwise (fun a b => lessE a b = true) ∧ ∀ y, p = some y → ∀ x ∈ l, lessE y x = true
  | [], _, _ => ⟨.nil, fun _ _ x hx => by cases hx⟩
  | x :: l, p, h => by
    rw [chk_cons] at h
    split at h
    · rename_i h1; exact absurd h h1
    · split at h
      · cases h
      · rename_i ha
        obtain ⟨h1, h2⟩ := chk_sorted h
        have h3 := h2 x rfl
        refine ⟨List.pairwise_cons.2 ⟨h3, h1⟩, fun y hy z hz => ?_⟩
        subst hy
        have hyx : lessE y x = true := by
          unfold ahd at ha
          simpa using ha
        rcases List.mem_cons.1 hz with rfl | hz
        · exact hyx
        · exact less_trans hyx (h3 z hz)
theorem check_sorted {l : List Entry} (h : checkE l = 0) : l.Pairwise (fun a b => lessE a b = true) := by
  unfold checkE at h
  split at h
  · cases h
  · exact (chk_sorted h).1
def askedE (key : Bs) (seq : Int) : Int := if key = [] ∨ 256 < key.length then 60 else if seq < 0 ∨ 2147483647 < seq then 2 else 0
def findE (l : List Entry) (key : Bs) (seq : Int) : Entry × Bool × Int :=
  if ¬ checkE l = 0 then (noE, false, checkE l) else if ¬ askedE key seq = 0 then (noE, false, askedE key seq) else
  match l.find? (fun x => !lessE x ⟨key, [], seq, false⟩) with
  | some x => if x.key = key then (x, true, 0) else (noE, false, 0)
  | none => (noE, false, 0)
theorem findE_c {l : List Entry} {key : Bs} {seq : Int} (h : ¬ checkE l = 0) : findE l key seq = (noE, false, checkE l) := by unfold findE; rw [if_pos h]
theorem findE_a {l : List Entry} {key : Bs} {seq : Int} (h : checkE l = 0) (h2 : ¬ askedE key seq = 0) : findE l key seq = (noE, false, askedE key seq) := by unfold findE; rw [if_neg (fun x => x h), if_pos h2]
theorem find_at {l : List Entry} {t : Entry} {k : Nat} (h1 : ∀ j (h : j < l.length), j < k → lessE l[j] t = true) (h2 : ∀ j (h : j < l.length), k ≤ j → lessE l[j] t = false) : l.find? (fun x => !lessE x t) = l[k]? := by
  rcases Nat.lt_or_ge k l.length with hk | hk
  · rw [List.getElem?_eq_getElem hk, List.find?_eq_some_iff_getElem]
    refine ⟨by rw [h2 k hk (Nat.le_refl _)]; rfl, k, hk, rfl, fun j hj => ?_⟩
    rw [h1 j (by omega) hj]
    decide
  · rw [List.getElem?_eq_none hk, List.find?_eq_none]
    intro x hx
    obtain ⟨j, hj, rfl⟩ := List.getElem_of_mem hx
    rw [h1 j hj (by omega)]
    decide
theorem findE_t {l : List Entry} {key : Bs} {seq : Int} {k : Nat} (h : checkE l = 0) (h2 : askedE key seq = 0) (h3 : l.find? (fun x => !lessE x ⟨key, [], seq, false⟩) = l[k]?) (hk : k < l.length) (he : l[k].key = key) : findE l key seq = (l[k], true, 0) := by
  unfold findE
  rw [if_neg (fun x => x h), if_neg (fun x => x h2), h3, List.getElem?_eq_getElem hk]
  show (if l[k].key = key then _ else _) = _
  rw [if_pos he]
theorem findE_f {l : List Entry} {key : Bs} {seq : Int} {k : Nat} (h : checkE l = 0) (h2 : askedE key seq = 0) (h3 : l.find? (fun x => !lessE x ⟨key, [], seq, false⟩) = l[k]?) (he : ∀ hk : k < l.length, ¬ l[k].key = key) : findE l key seq = (noE, false, 0) := by
  unfold findE
  rw [if_neg (fun x => x h), if_neg (fun x => x h2), h3]
  rcases Nat.lt_or_ge k l.length with hk | hk
  · rw [List.getElem?_eq_getElem hk]
    show (if l[k].key = key then _ else _) = _
    rw [if_neg (he hk)]
  · rw [List.getElem?_eq_none hk]
end tree
open tree
theorem fCheck_fn {w : World} {v : Value} {l : List Entry} (h : (Sl tEntry).rep All w v l) : Fn Tryz.prog 110 [v] w (fun r w2 => r = i64 (checkE l) ∧ Ext (fun _ => False) w w2) := by
  refine Fn.enter (fun w => Tryz.call110 _ w) Tryz.func110 rfl ?_
  refine .seq (.region ?_)
  refine .p rfl rfl (.as rfl) ?_
  refine .nil (.code (.seq (.keep [(0, _)] ⟨rfl, trivial⟩ (.region ?_))))
  refine .p rfl rfl (.mv rfl) ?_
  refine .call (first := []) (captured := []) rfl rfl rfl rfl (pgCheck_fn h) ?_
  rintro _ w4 ⟨rfl, X4⟩
  refine .p rfl rfl (.as rfl) ?_
  refine .nil (.code ?_)
  refine .ret _ rfl ?_
  exact ⟨rfl, X4⟩
theorem fAsked_fn {w : World} {key : Bs} {seq : Int} : Fn Tryz.prog 111 [str key, i64 seq] w (fun r w2 => r = i64 (askedE key seq) ∧ Ext (fun _ => False) w w2) := by
  refine Fn.enter (fun w => Tryz.call111 _ w) Tryz.func111 rfl ?_
  refine .seq (.region ?_)
  refine .p rfl rfl (.as rfl) ?_
  refine .nil (.code (.seq (.block (.seq (.keep [(0, _), (1, _)] ⟨rfl, rfl, trivial⟩ (.region ?_))))))
  refine .p rfl rfl (.mv rfl) ?_
  refine .p rfl rfl (.eqS rfl rfl) ?_
  refine .p rfl rfl (.mv rfl) ?_
  refine .caseD 8 rfl (fun c8 => ?_) (fun c8 => ?_)
  · refine .skip rfl rfl ?_
    refine .skip rfl rfl ?_
    refine .skip rfl rfl ?_
    refine .p rfl rfl (.pickT rfl rfl) ?_
    refine .p rfl rfl (.as rfl) ?_
    refine .nil (.code (.keep [(5, _), (1, _)] ⟨rfl, rfl, trivial⟩ (.condT rfl (.seq (.keep [] trivial (.region ?_))))))
    refine .p rfl rfl (.as rfl) ?_
    refine .nil (.code ?_)
    refine .ret _ rfl ?_
    exact ⟨by unfold askedE; rw [if_pos (by first | exact .inl (by assumption) | exact .inr (by omega))]; rfl, .refl _⟩
  · refine .p rfl rfl (.mv rfl) ?_
    refine .p rfl rfl (.lenS rfl rfl) ?_
    refine .p rfl rfl (.gt rfl rfl) ?_
    refine .p rfl rfl (.pickF rfl rfl) ?_
    refine .p rfl rfl (.as rfl) ?_
    refine .nil (.code (.keep [(5, _), (1, _)] ⟨rfl, rfl, trivial⟩ ?_))
    refine .condD rfl (fun c5 => ?_) (fun c5 => ?_)
    · refine .seq (.keep [] trivial (.region ?_))
      refine .p rfl rfl (.as rfl) ?_
      refine .nil (.code ?_)
      refine .ret _ rfl ?_
      exact ⟨by unfold askedE; rw [if_pos (by first | exact .inl (by assumption) | exact .inr (by omega))]; rfl, .refl _⟩
    · refine .seq (.keep [(1, _)] ⟨rfl, trivial⟩ (.region ?_))
      refine .p rfl rfl (.mv rfl) ?_
      refine .p rfl rfl (.lt rfl rfl) ?_
      refine .p rfl rfl (.mv rfl) ?_
      refine .caseD 16 rfl (fun c16 => ?_) (fun c16 => ?_)
      · refine .skip rfl rfl ?_
        refine .skip rfl rfl ?_
        refine .p rfl rfl (.pickT rfl rfl) ?_
        refine .p rfl rfl (.as rfl) ?_
        refine .nil (.code (.keep [(13, _)] ⟨rfl, trivial⟩ (.condT rfl (.seq (.keep [] trivial (.region ?_))))))
        refine .p rfl rfl (.as rfl) ?_
        refine .nil (.code ?_)
        refine .ret _ rfl ?_
        exact ⟨by unfold askedE; rw [if_neg (fun h => h.elim c8 (by omega)), if_pos (by omega)]; rfl, .refl _⟩
      · refine .p rfl rfl (.mv rfl) ?_
        refine .p rfl rfl (.gt rfl rfl) ?_
        refine .p rfl rfl (.pickF rfl rfl) ?_
        refine .p rfl rfl (.as rfl) ?_
        refine .nil (.code (.keep [(13, _)] ⟨rfl, trivial⟩ ?_))
        refine .condD rfl (fun c13 => ?_) (fun c13 => ?_)
        · refine .seq (.keep [] trivial (.region ?_))
          refine .p rfl rfl (.as rfl) ?_
          refine .nil (.code ?_)
          refine .ret _ rfl ?_
          exact ⟨by unfold askedE; rw [if_neg (fun h => h.elim c8 (by omega)), if_pos (by omega)]; rfl, .refl _⟩
        · refine .skip (.blk (.code (.seq (.keep [] trivial (.region ?_)))))
          refine .p rfl rfl (.as rfl) ?_
          refine .nil (.code ?_)
          refine .ret _ rfl ?_
          exact ⟨by unfold askedE; rw [if_neg (fun h => h.elim c8 (by omega)), if_neg (by omega)]; rfl, .refl _⟩
theorem fCompare_fn {w : World} {a b : Entry} {u v : Value} (ha : tEntry.rep All w u a) (hb : tEntry.rep All w v b) : Fn Tryz.prog 113 [u, v] w (fun r w2 => r = i64 (cmpE a b) ∧ Ext (fun _ => False) w w2) := by
  obtain ⟨rfl, a1, a2, a3⟩ := tEntry.val ha
  obtain ⟨rfl, b1, b2, b3⟩ := tEntry.val hb
  refine Fn.enter (fun w => Tryz.call113 _ w) Tryz.func113 rfl ?_
  refine .seq (.region ?_)
  refine .v rfl rfl (.box rfl) ?_
  rintro _ w2 ⟨rfl, N2⟩
  have B2 := N2.blk
  have X2 := N2.ext
  have z2 := N2.size
  refine .v rfl rfl (.box rfl) ?_
  rintro _ w3 ⟨rfl, N3⟩
  have B3 := N3.blk
  have X3 := N3.ext
  have z3 := N3.size
  refine .p rfl rfl (.as rfl) ?_
  refine .nil (.code (.seq (.block (.seq (.keep [(3, _), (2, _)] ⟨rfl, rfl, trivial⟩ (.region ?_))))))
  refine .p rfl rfl (.loadA (n := 4) rfl rfl rfl rfl rfl (B2.ext (S := fun _ => False) (by repeat (first | exact Ext.refl _ | assumption | refine Ext.trans (by assumption) ?_)) (fun x => x)).cells) ?_
  refine .p rfl rfl (.loadA (n := 4) rfl rfl rfl rfl rfl (B3.ext (S := fun _ => False) (by repeat (first | exact Ext.refl _ | assumption | refine Ext.trans (by assumption) ?_)) (fun x => x)).cells) ?_
  refine .call (first := []) (captured := []) rfl rfl rfl rfl (Less_fn (a := a) (b := b) (tEntry.mk a1 a2 a3) (tEntry.mk b1 b2 b3)) ?_
  rintro _ w8 ⟨rfl, X8⟩
  refine .p rfl rfl (.as rfl) ?_
  refine .nil (.code (.keep [(5, _), (3, _), (2, _)] ⟨rfl, rfl, rfl, trivial⟩ ?_))
  refine .cond rfl (fun c5 => ?_) (fun c5 => ?_)
  · refine .seq (.keep [] trivial (.region ?_))
    refine .p rfl rfl (.as rfl) ?_
    refine .nil (.code ?_)
    refine .ret _ rfl ?_
    exact ⟨by unfold cmpE; rw [if_pos c5]; rfl, (by repeat (first | exact Ext.refl _ | assumption | refine Ext.trans (by assumption) ?_))⟩
  · refine .seq (.keep [(3, _), (2, _)] ⟨rfl, rfl, trivial⟩ (.region ?_))
    refine .p rfl rfl (.loadA (n := 4) rfl rfl rfl rfl rfl (B3.ext (S := fun _ => False) (by repeat (first | exact Ext.refl _ | assumption | refine Ext.trans (by assumption) ?_)) (fun x => x)).cells) ?_
    refine .p rfl rfl (.loadA (n := 4) rfl rfl rfl rfl rfl (B2.ext (S := fun _ => False) (by repeat (first | exact Ext.refl _ | assumption | refine Ext.trans (by assumption) ?_)) (fun x => x)).cells) ?_
    refine .call (first := []) (captured := []) rfl rfl rfl rfl (Less_fn (a := b) (b := a) (tEntry.mk b1 b2 b3) (tEntry.mk a1 a2 a3)) ?_
    rintro _ w12 ⟨rfl, X12⟩
    refine .p rfl rfl (.as rfl) ?_
    refine .nil (.code (.keep [(9, _)] ⟨rfl, trivial⟩ ?_))
    refine .cond rfl (fun c9 => ?_) (fun c9 => ?_)
    · refine .seq (.keep [] trivial (.region ?_))
      refine .p rfl rfl (.as rfl) ?_
      refine .nil (.code ?_)
      refine .ret _ rfl ?_
      exact ⟨by unfold cmpE; rw [if_neg (by rw [c5]; exact Bool.false_ne_true), if_pos c9]; rfl, (by repeat (first | exact Ext.refl _ | assumption | refine Ext.trans (by assumption) ?_))⟩
    · refine .skip (.blk (.code (.seq (.keep [] trivial (.region ?_)))))
      refine .p rfl rfl (.as rfl) ?_
      refine .nil (.code ?_)
      refine .ret _ rfl ?_
      exact ⟨by unfold cmpE; rw [if_neg (by rw [c5]; exact Bool.false_ne_true), if_neg (by rw [c9]; exact Bool.false_ne_true)]; rfl, (by repeat (first | exact Ext.refl _ | assumption | refine Ext.trans (by assumption) ?_))⟩
theorem Bin_fn {w : World} {v u : Value} {l : List Entry} {t : Entry} (h : (Sl tEntry).rep All w v l) (ht : tEntry.rep All w u t) (hs : l.Pairwise (fun a b => lessE a b = true)) : Fn Tryz.prog 112 [v, u, .func (.func 113) #[] #[]] w (fun r w2 => (∃ (k : Nat) (q : Bool), r = .tuple #[i64 k, .bool q] ∧ k ≤ l.length ∧ (∀ j (h : j < l.length), j < k → lessE l[j] t = true) ∧ ∀ j (h : j < l.length), k ≤ j → lessE l[j] t = false) ∧ Ext (fun _ => False) w w2) := by
  obtain ⟨a, cap, rfl, hcap⟩ := Sl.val h
  obtain ⟨rfl, t1, t2, t3⟩ := tEntry.val ht
  have hlim := Sl.lim h
  simp only [Lim] at hlim
  refine Fn.enter (fun w => Tryz.call112 _ w) Tryz.func112 rfl ?_
  refine .seq (.region ?_)
  refine .v rfl rfl (.box rfl) ?_
  rintro _ w4 ⟨rfl, N4⟩
  have B4 := N4.blk
  have X4 := N4.ext
  have z4 := N4.size
  refine .p rfl rfl (.as rfl) ?_
  refine .p rfl rfl (.as rfl) ?_
  refine .nil (.code (.seq (.keep [(4, _), (0, _), (2, _)] ⟨rfl, rfl, rfl, trivial⟩ (.region ?_))))
  refine .p rfl rfl (.mv rfl) ?_
  refine .p rfl rfl (.len rfl rfl) ?_
  refine .p rfl rfl (.as rfl) ?_
  refine .nil (.code (.seq (.keep [(8, _), (4, _), (0, _), (2, _)] ⟨rfl, rfl, rfl, rfl, trivial⟩ (.region ?_))))
  refine .p rfl rfl (.mv rfl) ?_
  refine .p rfl rfl (.as rfl) ?_
  refine .p rfl rfl (.as rfl) ?_
  refine .nil (.code (.seq (.block (.keep [(10, _), (9, _), (8, _), (4, _), (0, _), (2, _)] ⟨rfl, rfl, rfl, rfl, rfl, rfl, trivial⟩ ?_))))
  refine .loop (S := Nat × Nat × World) (fun s => [(0, .slice a l.length cap), (2, .func (.func 113) #[] #[]), (4, .pointer (some ⟨w.heap.size, 0, none⟩)), (8, i64 l.length), (9, i64 s.1), (10, i64 s.2.1)]) (fun s => s.2.2) (fun s => s.1 ≤ s.2.1 ∧ s.2.1 ≤ l.length ∧ (∀ j (h : j < l.length), j < s.1 → lessE l[j] t = true) ∧ (∀ j (h : j < l.length), s.2.1 ≤ j → lessE l[j] t = false) ∧ Ext (fun _ => False) w4 s.2.2) (fun s => s.2.1 - s.1) (0, l.length, w4) ⟨rfl, rfl, rfl, rfl, rfl, rfl, trivial⟩ rfl ⟨Nat.zero_le _, Nat.le_refl _, (fun j _ h => absurd h (Nat.not_lt_zero _)), (fun j h1 h2 => absurd h1 (Nat.not_lt.2 h2)), .refl _⟩ ?_
  rintro ⟨i, j, wi⟩ J ⟨hij, hj, hlo, hhi, hX⟩ again
  simp only at hij hj hlo hhi hX
  change G _ [(0, .slice a l.length cap), (2, .func (.func 113) #[] #[]), (4, .pointer (some ⟨w.heap.size, 0, none⟩)), (8, i64 l.length), (9, i64 i), (10, i64 j)] _ _ wi
  refine .seq (.seq (.region ?_))
  refine .p rfl rfl (.mv rfl) ?_
  refine .p rfl rfl (.mv rfl) ?_
  refine .p rfl rfl (.lt rfl rfl) ?_
  refine .nil (.code (.keep [(17, _), (0, _), (2, _), (4, _), (8, _), (9, _), (10, _)] ⟨rfl, rfl, rfl, rfl, rfl, rfl, rfl, trivial⟩ ?_))
  refine .condD rfl (fun c17 => ?_) (fun c17 => ?_)
  · have hm : (i + j) / 2 < l.length := by omega
    obtain ⟨b0, o0, c0, ue, e, _, hcs, hre⟩ := Sl.at h (List.getElem?_eq_getElem hm)
    cases e
    obtain ⟨rfl, h1, h2, h3⟩ := tEntry.val hre
    refine .skip (.code (.block (.seq (.keep [(0, _), (2, _), (4, _), (8, _), (9, _), (10, _)] ⟨rfl, rfl, rfl, rfl, rfl, rfl, trivial⟩ (.region ?_)))))
    refine .p rfl rfl (.mv rfl) ?_
    refine .p rfl rfl (.mv rfl) ?_
    refine .p rfl rfl (.add rfl rfl (by omega)) ?_
    refine .p rfl rfl (.convU rfl rfl rfl (by omega)) ?_
    refine .p rfl rfl (.shrN 1 rfl rfl (by decide)) ?_
    refine .p rfl rfl (.cast (.convI rfl rfl rfl (by omega)) (show _ = i64 ((i + j) / 2 : Nat) by congr 1)) ?_
    refine .p rfl rfl (.as rfl) ?_
    refine .nil (.code (.seq (.keep [(11, _), (0, _), (2, _), (4, _), (8, _), (9, _), (10, _)] ⟨rfl, rfl, rfl, rfl, rfl, rfl, rfl, trivial⟩ (.mix (fun _ => False) [6] (by kernel_rfl) (by kernel_rfl) (by kernel_rfl) ?_))))
    refine .p rfl rfl rfl (fun wx hx => .mv rfl) ?_
    refine .p rfl rfl rfl (fun wx hx => .mv rfl) ?_
    refine .p rfl rfl rfl (fun wx hx => .mv rfl) ?_
    refine .p rfl rfl rfl (fun wx hx => .indexAddr (s := 4) rfl rfl rfl rfl (by omega)) ?_
    refine .p rfl rfl rfl (fun wx hx => .loadA (n := 4) rfl rfl rfl rfl rfl (hcs.ext (S := fun _ => False) (Ext.trans (by repeat (first | exact Ext.refl _ | assumption | refine Ext.trans (by assumption) ?_)) hx) (fun x => x))) ?_
    refine .p rfl rfl rfl (fun wx hx => .loadA (n := 4) rfl rfl rfl rfl rfl (B4.ext (S := fun _ => False) (Ext.trans (by repeat (first | exact Ext.refl _ | assumption | refine Ext.trans (by assumption) ?_)) hx) (fun x => x)).cells) ?_
    refine .call (first := []) (captured := []) rfl rfl rfl rfl rfl (fCompare_fn (a := l[(i + j) / 2]) (b := t) (tEntry.mk h1 h2 h3) (tEntry.mk t1 t2 t3)) (by rintro _ _ ⟨_, hx⟩; exact hx) ?_
    rintro _ w30 ⟨rfl, X30⟩
    refine .p rfl rfl rfl (fun wx hx => .lt rfl rfl) ?_
    refine .nil (.code (.keep [(31, _), (11, _), (0, _), (2, _), (4, _), (8, _), (9, _), (10, _)] ⟨rfl, rfl, rfl, rfl, rfl, rfl, rfl, rfl, trivial⟩ ?_))
    refine .condD rfl (fun c31 => ?_) (fun c31 => ?_)
    · refine .keep [(11, _), (0, _), (2, _), (4, _), (8, _), (10, _)] ⟨rfl, rfl, rfl, rfl, rfl, rfl, trivial⟩ (.region ?_)
      refine .p rfl rfl (.mv rfl) ?_
      refine .p rfl rfl (.add rfl rfl (by omega)) ?_
      refine .p rfl rfl (.as rfl) ?_
      refine .nil (.blk ?_)
      exact (again ((i + j) / 2 + 1, j, w30) ⟨by show (i + j) / 2 + 1 ≤ j; omega, hj, (fun k hk hlt => by
        have hlt : k < (i + j) / 2 + 1 := hlt
        have hc := cmpE_lt.1 c31
        rcases Nat.lt_or_ge k ((i + j) / 2) with h2 | h2
        · exact less_trans (List.pairwise_iff_getElem.1 hs k _ hk hm h2) hc
        · obtain rfl : k = (i + j) / 2 := by omega
          exact hc), hhi, hX.trans X30⟩ (by show j - ((i + j) / 2 + 1) < j - i; omega)).of ⟨rfl, rfl, rfl, rfl, rfl, rfl, trivial⟩
    · refine .keep [(11, _), (0, _), (2, _), (4, _), (8, _), (9, _)] ⟨rfl, rfl, rfl, rfl, rfl, rfl, trivial⟩ (.region ?_)
      refine .p rfl rfl (.mv rfl) ?_
      refine .p rfl rfl (.as rfl) ?_
      refine .nil (.blk ?_)
      exact (again (i, (i + j) / 2, w30) ⟨by show i ≤ (i + j) / 2; omega, by show (i + j) / 2 ≤ _; omega, hlo, (fun k hk hlt => by
        have hlt : (i + j) / 2 ≤ k := hlt
        have hc : lessE l[(i + j) / 2] t = false := by cases hh : lessE l[(i + j) / 2] t with | false => rfl | true => exact absurd (cmpE_lt.2 hh) c31
        rcases Nat.lt_or_ge ((i + j) / 2) k with h2 | h2
        · cases hh : lessE l[k] t with
          | false => rfl
          | true => rw [less_trans (List.pairwise_iff_getElem.1 hs _ k hm hk h2) hh] at hc; cases hc
        · obtain rfl : k = (i + j) / 2 := by omega
          exact hc), hX.trans X30⟩ (by show (i + j) / 2 - i < j - i; omega)).of ⟨rfl, rfl, rfl, rfl, rfl, rfl, trivial⟩
  · refine .exit rfl (.code (.seq (.keep [(0, _), (2, _), (4, _), (8, _), (9, _)] ⟨rfl, rfl, rfl, rfl, rfl, trivial⟩ (.mix (fun _ => False) [11] (by kernel_rfl) (by kernel_rfl) (by kernel_rfl) ?_))))
    refine .p rfl rfl rfl (fun wx hx => .mv rfl) ?_
    refine .p rfl rfl rfl (fun wx hx => .mv rfl) ?_
    refine .p rfl rfl rfl (fun wx hx => .mv rfl) ?_
    refine .p rfl rfl rfl (fun wx hx => .lt rfl rfl) ?_
    refine .p rfl rfl rfl (fun wx hx => .mv rfl) ?_
    refine .caseD 39 rfl (fun c39 => ?_) (fun c39 => ?_)
    · have hi : i < l.length := by omega
      obtain ⟨b0, o0, c0, ue, e, _, hcs, hre⟩ := Sl.at h (List.getElem?_eq_getElem hi)
      cases e
      obtain ⟨rfl, h1, h2, h3⟩ := tEntry.val hre
      refine .p rfl rfl rfl (fun wx hx => .mv rfl) ?_
      refine .p rfl rfl rfl (fun wx hx => .mv rfl) ?_
      refine .p rfl rfl rfl (fun wx hx => .mv rfl) ?_
      refine .p rfl rfl rfl (fun wx hx => .indexAddr (s := 4) rfl rfl rfl rfl (by omega)) ?_
      refine .p rfl rfl rfl (fun wx hx => .loadA (n := 4) rfl rfl rfl rfl rfl (hcs.ext (S := fun _ => False) (Ext.trans (by repeat (first | exact Ext.refl _ | assumption | refine Ext.trans (by assumption) ?_)) hx) (fun x => x))) ?_
      refine .p rfl rfl rfl (fun wx hx => .loadA (n := 4) rfl rfl rfl rfl rfl (B4.ext (S := fun _ => False) (Ext.trans (by repeat (first | exact Ext.refl _ | assumption | refine Ext.trans (by assumption) ?_)) hx) (fun x => x)).cells) ?_
      refine .call (first := []) (captured := []) rfl rfl rfl rfl rfl (fCompare_fn (a := l[i]) (b := t) (tEntry.mk h1 h2 h3) (tEntry.mk t1 t2 t3)) (by rintro _ _ ⟨_, hx⟩; exact hx) ?_
      rintro _ w46 ⟨rfl, X46⟩
      refine .p rfl rfl rfl (fun wx hx => .eq rfl rfl) ?_
      refine .p rfl rfl rfl (fun wx hx => .pickT rfl rfl) ?_
      refine .p rfl rfl rfl (fun wx hx => .as rfl) ?_
      refine .p rfl rfl rfl (fun wx hx => .as rfl) ?_
      refine .nil (.code ?_)
      refine .ret _ rfl ?_
      obtain rfl : i = j := by omega
      exact ⟨⟨i, _, rfl, hj, hlo, hhi⟩, (by repeat (first | exact Ext.refl _ | assumption | refine Ext.trans (by assumption) ?_))⟩
    · refine .skip rfl rfl ?_
      refine .skip rfl rfl ?_
      refine .skip rfl rfl ?_
      refine .skip rfl rfl ?_
      refine .skip rfl rfl ?_
      refine .skip rfl rfl ?_
      refine .skip rfl rfl ?_
      refine .skip rfl rfl ?_
      refine .p rfl rfl rfl (fun wx hx => .pickF rfl rfl) ?_
      refine .p rfl rfl rfl (fun wx hx => .as rfl) ?_
      refine .p rfl rfl rfl (fun wx hx => .as rfl) ?_
      refine .nil (.code ?_)
      refine .ret _ rfl ?_
      obtain rfl : i = j := by omega
      exact ⟨⟨i, _, rfl, hj, hlo, hhi⟩, (by repeat (first | exact Ext.refl _ | assumption | refine Ext.trans (by assumption) ?_))⟩
theorem fFind_fn {w : World} {v : Value} {l : List Entry} {key : Bs} {seq : Int} (h : (Sl tEntry).rep All w v l) (hk : key.length < Lim) (hq : -9223372036854775808 ≤ seq ∧ seq ≤ 9223372036854775807) : Fn Tryz.prog 72 [v, str key, i64 seq] w (fun r w2 => r = .tuple #[entV (findE l key seq).1, .bool (findE l key seq).2.1, i64 (findE l key seq).2.2] ∧ Ext (fun _ => False) w w2) := by
  obtain ⟨a, cap, rfl, hcap⟩ := Sl.val h
  refine Fn.enter (fun w => Tryz.call72 _ w) Tryz.func72 rfl ?_
  refine .seq (.region ?_)
  refine .v rfl rfl (.alloc rfl rfl) ?_
  rintro _ w6 ⟨rfl, N6⟩
  have B6 := N6.blk
  have X6 := N6.ext
  have z6 := N6.size
  refine .p rfl rfl (.as rfl) ?_
  refine .p rfl rfl (.as rfl) ?_
  refine .nil (.code (.seq (.seq (.keep [(6, _), (0, _), (1, _), (2, _)] ⟨rfl, rfl, rfl, rfl, trivial⟩ (.region ?_)))))
  refine .p rfl rfl (.mv rfl) ?_
  refine .call (first := []) (captured := []) rfl rfl rfl rfl (fCheck_fn ((Sl tEntry).ext0 h (by repeat (first | exact Ext.refl _ | assumption | refine Ext.trans (by assumption) ?_)))) ?_
  rintro _ w14 ⟨rfl, X14⟩
  refine .p rfl rfl (.as rfl) ?_
  refine .nil (.code (.seq (.keep [(9, _), (6, _), (0, _), (1, _), (2, _)] ⟨rfl, rfl, rfl, rfl, rfl, trivial⟩ (.region ?_))))
  refine .p rfl rfl (.mv rfl) ?_
  refine .p rfl rfl (.ne rfl rfl) ?_
  refine .nil (.code (.keep [(16, _), (9, _), (6, _), (0, _), (1, _), (2, _)] ⟨rfl, rfl, rfl, rfl, rfl, rfl, trivial⟩ ?_))
  refine .condD rfl (fun c16 => ?_) (fun c16 => ?_)
  · refine .seq (.keep [(9, _), (6, _)] ⟨rfl, rfl, trivial⟩ (.region ?_))
    refine .p rfl rfl (.build (cs := [str [], str [], i64 0, .bool false]) rfl (fun _ => by kernel_rfl)) ?_
    refine .p rfl rfl (.mv rfl) ?_
    refine .s rfl (.storeAll (n := 4) rfl rfl rfl rfl rfl (B6.ext (S := fun _ => False) (by repeat (first | exact Ext.refl _ | assumption | refine Ext.trans (by assumption) ?_)) (fun x => x)) rfl) ?_
    intro wz P4
    refine .p rfl rfl (.as rfl) ?_
    refine .p rfl rfl (.as rfl) ?_
    refine .nil (.code ?_)
    refine .retR (.cell (n := 4) rfl rfl rfl rfl rfl (P4.blk.cells) (.tmp rfl (.tmp rfl .nil))) ?_
    rw [findE_c c16]
    exact ⟨rfl, Ext.then (by repeat (first | exact Ext.refl _ | assumption | refine Ext.trans (by assumption) ?_)) P4.ext (by rintro k rfl _; exact Nat.le_refl _)⟩
  · have c15 : checkE l = 0 := by first | exact Decidable.not_not.1 c16 | exact c16
    refine .skip (.code (.seq (.seq (.keep [(6, _), (0, _), (1, _), (2, _)] ⟨rfl, rfl, rfl, rfl, trivial⟩ (.region ?_)))))
    refine .p rfl rfl (.mv rfl) ?_
    refine .p rfl rfl (.mv rfl) ?_
    refine .call (first := []) (captured := []) rfl rfl rfl rfl (fAsked_fn (key := key) (seq := seq)) ?_
    rintro _ w21 ⟨rfl, X21⟩
    refine .p rfl rfl (.as rfl) ?_
    refine .nil (.code (.seq (.keep [(10, _), (6, _), (0, _), (1, _), (2, _)] ⟨rfl, rfl, rfl, rfl, rfl, trivial⟩ (.region ?_))))
    refine .p rfl rfl (.mv rfl) ?_
    refine .p rfl rfl (.ne rfl rfl) ?_
    refine .nil (.code (.keep [(23, _), (10, _), (6, _), (0, _), (1, _), (2, _)] ⟨rfl, rfl, rfl, rfl, rfl, rfl, trivial⟩ ?_))
    refine .condD rfl (fun c23 => ?_) (fun c23 => ?_)
    · refine .seq (.keep [(10, _), (6, _)] ⟨rfl, rfl, trivial⟩ (.region ?_))
      refine .p rfl rfl (.build (cs := [str [], str [], i64 0, .bool false]) rfl (fun _ => by kernel_rfl)) ?_
      refine .p rfl rfl (.mv rfl) ?_
      refine .s rfl (.storeAll (n := 4) rfl rfl rfl rfl rfl (B6.ext (S := fun _ => False) (by repeat (first | exact Ext.refl _ | assumption | refine Ext.trans (by assumption) ?_)) (fun x => x)) rfl) ?_
      intro wz P4
      refine .p rfl rfl (.as rfl) ?_
      refine .p rfl rfl (.as rfl) ?_
      refine .nil (.code ?_)
      refine .retR (.cell (n := 4) rfl rfl rfl rfl rfl (P4.blk.cells) (.tmp rfl (.tmp rfl .nil))) ?_
      rw [findE_a c15 c23]
      exact ⟨rfl, Ext.then (by repeat (first | exact Ext.refl _ | assumption | refine Ext.trans (by assumption) ?_)) P4.ext (by rintro k rfl _; exact Nat.le_refl _)⟩
    · have c22 : askedE key seq = 0 := by first | exact Decidable.not_not.1 c23 | exact c23
      refine .skip (.code (.seq (.keep [(6, _), (0, _), (1, _), (2, _)] ⟨rfl, rfl, rfl, rfl, trivial⟩ (.region ?_))))
      refine .p rfl rfl (.mv rfl) ?_
      refine .p rfl rfl (.mv rfl) ?_
      refine .p rfl rfl (.mv rfl) ?_
      refine .p rfl rfl (.build (cs := [str key, str [], i64 seq, .bool false]) rfl (fun _ => by kernel_rfl)) ?_
      refine .call (first := []) (captured := []) rfl rfl rfl rfl (Bin_fn (t := ⟨key, [], seq, false⟩) ((Sl tEntry).ext0 h (by repeat (first | exact Ext.refl _ | assumption | refine Ext.trans (by assumption) ?_))) (tEntry.mk (x := ⟨key, [], seq, false⟩) hk (by show 0 < Lim; decide) hq) (check_sorted c15)) ?_
      rintro _ w31 ⟨⟨k, q, rfl, hk1, hk2, hk3⟩, X31⟩
      have hf := find_at hk2 hk3
      refine .p rfl rfl (.mv rfl) ?_
      refine .p rfl rfl (.extract rfl rfl) ?_
      refine .p rfl rfl (.extract rfl rfl) ?_
      refine .p rfl rfl (.as rfl) ?_
      refine .p rfl rfl (.as rfl) ?_
      refine .nil (.code (.seq (.seq (.keep [(11, _), (6, _), (0, _), (1, _)] ⟨rfl, rfl, rfl, rfl, trivial⟩ (.region ?_)))))
      refine .p rfl rfl (.mv rfl) ?_
      refine .p rfl rfl (.mv rfl) ?_
      refine .p rfl rfl (.len rfl rfl) ?_
      refine .p rfl rfl (.lt rfl rfl) ?_
      refine .p rfl rfl (.mv rfl) ?_
      refine .caseD 38 rfl (fun c38 => ?_) (fun c38 => ?_)
      · have hkl : k < l.length := by omega
        obtain ⟨b0, o0, c0, ue, e, _, hcs, hre⟩ := Sl.at h (List.getElem?_eq_getElem hkl)
        cases e
        obtain ⟨rfl, h1, h2, h3⟩ := tEntry.val hre
        refine .p rfl rfl (.mv rfl) ?_
        refine .p rfl rfl (.mv rfl) ?_
        refine .p rfl rfl (.indexAddr (s := 4) rfl rfl rfl rfl (by omega)) ?_
        refine .p rfl rfl (.fieldAddr rfl rfl rfl rfl) ?_
        refine .p rfl rfl (.load rfl rfl rfl (hcs.ext (S := fun _ => False) (by repeat (first | exact Ext.refl _ | assumption | refine Ext.trans (by assumption) ?_)) (fun x => x) 0 _ rfl)) ?_
        refine .p rfl rfl (.mv rfl) ?_
        refine .p rfl rfl (.eqS rfl rfl) ?_
        refine .p rfl rfl (.pickT rfl rfl) ?_
        refine .nil (.code (.keep [(46, _), (11, _), (6, _), (0, _)] ⟨rfl, rfl, rfl, rfl, trivial⟩ ?_))
        refine .condD rfl (fun c46 => ?_) (fun c46 => ?_)
        · refine .seq (.keep [(11, _), (6, _), (0, _)] ⟨rfl, rfl, rfl, trivial⟩ (.region ?_))
          refine .p rfl rfl (.mv rfl) ?_
          refine .p rfl rfl (.mv rfl) ?_
          refine .p rfl rfl (.indexAddr (s := 4) rfl rfl rfl rfl (by omega)) ?_
          refine .p rfl rfl (.loadA (n := 4) rfl rfl rfl rfl rfl (hcs.ext (S := fun _ => False) (by repeat (first | exact Ext.refl _ | assumption | refine Ext.trans (by assumption) ?_)) (fun x => x))) ?_
          refine .s rfl (.storeAll (n := 4) rfl rfl rfl rfl rfl (B6.ext (S := fun _ => False) (by repeat (first | exact Ext.refl _ | assumption | refine Ext.trans (by assumption) ?_)) (fun x => x)) rfl) ?_
          intro wz P4
          refine .p rfl rfl (.as rfl) ?_
          refine .p rfl rfl (.as rfl) ?_
          refine .nil (.code ?_)
          refine .retR (.cell (n := 4) rfl rfl rfl rfl rfl (P4.blk.cells) (.tmp rfl (.tmp rfl .nil))) ?_
          rw [findE_t c15 c22 hf hkl (by first | exact c46 | simpa using c46)]
          exact ⟨rfl, Ext.then (by repeat (first | exact Ext.refl _ | assumption | refine Ext.trans (by assumption) ?_)) P4.ext (by rintro k rfl _; exact Nat.le_refl _)⟩
        · refine .skip (.code (.seq (.keep [(6, _)] ⟨rfl, trivial⟩ (.region ?_))))
          refine .p rfl rfl (.build (cs := [str [], str [], i64 0, .bool false]) rfl (fun _ => by kernel_rfl)) ?_
          refine .s rfl (.storeAll (n := 4) rfl rfl rfl rfl rfl (B6.ext (S := fun _ => False) (by repeat (first | exact Ext.refl _ | assumption | refine Ext.trans (by assumption) ?_)) (fun x => x)) rfl) ?_
          intro wz P4
          refine .p rfl rfl (.as rfl) ?_
          refine .p rfl rfl (.as rfl) ?_
          refine .nil (.code ?_)
          refine .retR (.cell (n := 4) rfl rfl rfl rfl rfl (P4.blk.cells) (.tmp rfl (.tmp rfl .nil))) ?_
          rw [findE_f c15 c22 hf (fun hk => by first | exact c46 | omega | simpa using c46)]
          exact ⟨rfl, Ext.then (by repeat (first | exact Ext.refl _ | assumption | refine Ext.trans (by assumption) ?_)) P4.ext (by rintro k rfl _; exact Nat.le_refl _)⟩
      · refine .skip rfl rfl ?_
        refine .skip rfl rfl ?_
        refine .skip rfl rfl ?_
        refine .skip rfl rfl ?_
        refine .skip rfl rfl ?_
        refine .skip rfl rfl ?_
        refine .skip rfl rfl ?_
        refine .p rfl rfl (.pickF rfl rfl) ?_
        refine .nil (.code (.keep [(46, _), (11, _), (6, _), (0, _)] ⟨rfl, rfl, rfl, rfl, trivial⟩ (.condF rfl (.skip (.code (.seq (.keep [(6, _)] ⟨rfl, trivial⟩ (.region ?_))))))))
        refine .p rfl rfl (.build (cs := [str [], str [], i64 0, .bool false]) rfl (fun _ => by kernel_rfl)) ?_
        refine .s rfl (.storeAll (n := 4) rfl rfl rfl rfl rfl (B6.ext (S := fun _ => False) (by repeat (first | exact Ext.refl _ | assumption | refine Ext.trans (by assumption) ?_)) (fun x => x)) rfl) ?_
        intro wz P4
        refine .p rfl rfl (.as rfl) ?_
        refine .p rfl rfl (.as rfl) ?_
        refine .nil (.code ?_)
        refine .retR (.cell (n := 4) rfl rfl rfl rfl rfl (P4.blk.cells) (.tmp rfl (.tmp rfl .nil))) ?_
        rw [findE_f c15 c22 hf (fun hk => by first | exact c46 | omega | simpa using c46)]
        exact ⟨rfl, Ext.then (by repeat (first | exact Ext.refl _ | assumption | refine Ext.trans (by assumption) ?_)) P4.ext (by rintro k rfl _; exact Nat.le_refl _)⟩
end Go.Proofs.YthliepcjfnjnoaaGreatDoor
namespace Go.Proofs.YthliepcjfnjnoaaGreatDoor
open Go
theorem qLen_fn {w : World} {a : Option Addr} {n c : Nat} : Fn Tryz.prog 103 [.slice a n c] w (fun r w2 => r = i64 n ∧ Ext (fun _ => False) w w2) := by
  refine Fn.enter (fun w => Tryz.call103 _ w) Tryz.func103 rfl ?_
  refine .seq (.region ?_)
  refine .p rfl rfl (.as rfl) ?_
  refine .nil (.code (.seq (.keep [(0, _)] ⟨rfl, trivial⟩ (.region ?_))))
  refine .p rfl rfl (.mv rfl) ?_
  refine .p rfl rfl (.len rfl rfl) ?_
  refine .p rfl rfl (.as rfl) ?_
  refine .nil (.code ?_)
  refine .ret _ rfl ?_
  exact ⟨rfl, .refl _⟩
theorem InitNil_fn {w : World} {b : Nat} (hB : Blk w b 188 [.slice none 0 0]) : Fn Tryz.prog 102 [.iface 191 (.pointer (some ⟨b, 0, none⟩))] w (fun r w2 => r = .tuple #[] ∧ Ext (fun _ => False) w w2) := by
  refine Fn.enter (fun w => Tryz.call102 _ w) Tryz.func102 rfl ?_
  refine .seq (.region ?_)
  refine .p rfl rfl (.mv rfl) ?_
  refine .callM (f := 103) (u := .slice none 0 0) rfl rfl rfl rfl (fun w' hw => method_ptr (k := _) (by kernel_rfl) Tryz.underlying191 Tryz.underlying188 rfl ((hw.cell _).trans (hB.cell 0))) qLen_fn ?_
  rintro _ w5 ⟨rfl, X5⟩
  refine .p rfl rfl (.as rfl) ?_
  refine .nil (.code (.seq (.keep [(2, _), (0, _)] ⟨rfl, rfl, trivial⟩ (.region ?_))))
  refine .p rfl rfl (.mv rfl) ?_
  refine .p rfl rfl (.cast (.quo rfl rfl (by decide)) (show _ = i64 0 from rfl)) ?_
  refine .p rfl rfl (.cast (.sub rfl rfl (by decide)) (show _ = i64 (-1) from rfl)) ?_
  refine .p rfl rfl (.as rfl) ?_
  refine .nil (.code (.block (.keep [(3, _), (2, _), (0, _)] ⟨rfl, rfl, rfl, trivial⟩ ?_)))
  refine .loop (S := Unit) (fun s => [(0, .iface 191 (.pointer (some ⟨b, 0, none⟩))), (2, i64 0), (3, i64 (-1))]) (fun s => w5) (fun s => True) (fun s => 0) () ⟨rfl, rfl, rfl, trivial⟩ rfl trivial ?_
  rintro ⟨⟩ J _ again
  change G _ [(0, .iface 191 (.pointer (some ⟨b, 0, none⟩))), (2, i64 0), (3, i64 (-1))] _ _ w5
  refine .seq (.seq (.region ?_))
  refine .p rfl rfl (.mv rfl) ?_
  refine .p rfl rfl (.no (.ge rfl rfl) (by decide)) ?_
  refine .nil (.code (.keep [(10, _), (0, _), (2, _), (3, _)] ⟨rfl, rfl, rfl, rfl, trivial⟩ (.condF rfl (.exit rfl ?_))))
  refine .fin _ rfl ?_
  exact ⟨rfl, X5⟩
theorem AllNil_fn {w : World} : Fn Tryz.prog 67 [.slice none 0 0] w (fun r w2 => r = .tuple #[.slice none 0 0, i64 0] ∧ Ext (fun _ => False) w w2) := by
  refine Fn.enter (fun w => Tryz.call67 _ w) Tryz.func67 rfl ?_
  refine .seq (.region ?_)
  refine .p rfl rfl (.as rfl) ?_
  refine .p rfl rfl (.as rfl) ?_
  refine .nil (.code (.seq (.seq (.keep [(0, _)] ⟨rfl, trivial⟩ (.region ?_)))))
  refine .p rfl rfl (.mv rfl) ?_
  refine .p rfl rfl (.len rfl rfl) ?_
  refine .p rfl rfl (.no (.gt rfl rfl) (by decide)) ?_
  refine .nil (.code (.keep [(14, _), (0, _)] ⟨rfl, rfl, trivial⟩ (.condF rfl (.skip (.code (.seq (.keep [(0, _)] ⟨rfl, trivial⟩ (.region ?_))))))))
  refine .v rfl rfl (.alloc rfl rfl) ?_
  rintro _ w4 ⟨rfl, N4⟩
  have B4 := N4.blk
  have X4 := N4.ext
  refine .nil (.code (.seq (.region ?_)))
  refine .p rfl rfl (.as rfl) ?_
  refine .nil (.code (.seq (.seq (.region ?_))))
  refine .p rfl rfl (.mv rfl) ?_
  refine .p rfl rfl (.len rfl rfl) ?_
  refine .p rfl rfl (.mv rfl) ?_
  refine .nil (.code (.block (.keep [(17, _), (16, _), (15, _), (5, _), (4, _)] ⟨rfl, rfl, rfl, rfl, rfl, trivial⟩ ?_)))
  refine .loop (S := Unit) (fun s => [(4, .pointer (some ⟨w.heap.size, 0, none⟩)), (5, i64 0), (15, .slice none 0 0), (16, i64 0), (17, i64 0)]) (fun s => w4) (fun s => True) (fun s => 0) () ⟨rfl, rfl, rfl, rfl, rfl, trivial⟩ rfl trivial ?_
  rintro ⟨⟩ J _ again
  change G _ [(4, .pointer (some ⟨w.heap.size, 0, none⟩)), (5, i64 0), (15, .slice none 0 0), (16, i64 0), (17, i64 0)] _ _ w4
  refine .seq (.region ?_)
  refine .p rfl rfl (.no (.lt rfl rfl) (by decide)) ?_
  refine .nil (.code (.seq (.condF rfl (.exit rfl (.code (.seq (.seq (.keep [(4, _), (5, _)] ⟨rfl, rfl, trivial⟩ (.region ?_)))))))))
  refine .p rfl rfl (.mv rfl) ?_
  refine .p rfl rfl (.no (.gt rfl rfl) (by decide)) ?_
  refine .nil (.code (.keep [(39, _), (4, _)] ⟨rfl, rfl, trivial⟩ (.condF rfl (.skip (.code (.seq (.keep [(4, _)] ⟨rfl, trivial⟩ (.region ?_))))))))
  refine .p rfl rfl (.mkIface rfl Tryz.underlying191 rfl) ?_
  refine .call (first := []) (captured := []) rfl rfl rfl rfl (InitNil_fn B4) ?_
  rintro _ w41 ⟨rfl, X41⟩
  refine .nil (.code (.seq (.keep [(4, _)] ⟨rfl, trivial⟩ (.region ?_))))
  refine .p rfl rfl (.as rfl) ?_
  refine .nil (.code (.seq (.block ?_)))
  refine .loop (S := Unit) (fun s => [(4, .pointer (some ⟨w.heap.size, 0, none⟩)), (9, .slice none 0 0)]) (fun s => w41) (fun s => True) (fun s => 0) () ⟨rfl, rfl, trivial⟩ rfl trivial ?_
  rintro ⟨⟩ J _ again
  have hX := Ext.refl (S := fun _ => False) w41
  change G _ [(4, .pointer (some ⟨w.heap.size, 0, none⟩)), (9, .slice none 0 0)] _ _ w41
  refine .seq (.seq (.region ?_))
  refine .p rfl rfl (.load rfl rfl rfl ((B4.ext (X41.trans hX) (fun x => x)).cell 0)) ?_
  refine .call (first := []) (captured := []) rfl rfl rfl rfl (qLen_fn) ?_
  rintro _ w43 ⟨rfl, X43⟩
  refine .p rfl rfl (.no (.gt rfl rfl) (by decide)) ?_
  refine .nil (.code (.keep [(44, _), (4, _), (9, _)] ⟨rfl, rfl, rfl, trivial⟩ (.condF rfl (.exit rfl (.code (.seq (.keep [(9, _)] ⟨rfl, trivial⟩ (.region ?_))))))))
  refine .p rfl rfl (.mv rfl) ?_
  refine .p rfl rfl (.as rfl) ?_
  refine .p rfl rfl (.as rfl) ?_
  refine .nil (.code ?_)
  refine .ret _ rfl ?_
  exact ⟨rfl, (by repeat (first | exact Ext.refl _ | assumption | refine Ext.trans (by assumption) ?_))⟩
end Go.Proofs.YthliepcjfnjnoaaGreatDoor
namespace Go.Proofs.YthliepcjfnjnoaaGreatDoor
open Go Go.MapKept
def MapV {κ : Type} (K : κ → Value) (w : World) (m : Nat) (kvs : List (κ × Value)) : Prop :=
  ∃ es clock, w.heap[m]? = some (.map es clock) ∧ es.toList.map (fun e => (e.key, e.val)) = kvs.map (fun p => (K p.1, p.2)) ∧ (kvs.map (·.1)).Nodup
section
variable {κ : Type} {K : κ → Value} {w w' : World} {m : Nat} {kvs : List (κ × Value)} {P : Program} {e : Env} {x y z : Operand} {T kt et : TypeId} {d : TypeDesc} {k : κ} {v : Value}
theorem MapV.lt (h : MapV K w m kvs) : m < w.heap.size := by
  obtain ⟨es, c, h1, _⟩ := h
  exact (Array.getElem?_eq_some_iff.1 h1).1
theorem MapV.ext {S : Nat → Prop} (h : MapV K w m kvs) (hx : Ext S w w') (hs : ¬ S m) : MapV K w' m kvs := by
  have hl := h.lt
  obtain ⟨es, c, h1, h2⟩ := h
  exact ⟨es, c, (hx.block m hl hs).trans h1, h2⟩
theorem MapV.keys (h : MapV K w m kvs) (hK : ∀ a, IsKey d (K a)) : ∃ es clock, w.heap[m]? = some (.map es clock) ∧ es.toList.map (fun e => (e.key, e.val)) = kvs.map (fun p => (K p.1, p.2)) ∧ (∀ x ∈ es.toList, IsKey d x.key ∧ ∃ p ∈ kvs, x.key = K p.1 ∧ x.val = p.2) := by
  obtain ⟨es, c, h1, h2, h3⟩ := h
  refine ⟨es, c, h1, h2, fun x hx => ?_⟩
  have : (x.key, x.val) ∈ es.toList.map (fun e => (e.key, e.val)) := List.mem_map.2 ⟨x, hx, rfl⟩
  rw [h2] at this
  obtain ⟨p, hp, he⟩ := List.mem_map.1 this
  simp only [Prod.mk.injEq] at he
  exact ⟨he.1 ▸ hK p.1, p, hp, he.1.symm, he.2.symm⟩
theorem run_look (h : MapV K w m kvs) (hK : ∀ a, IsKey d (K a)) (hinj : ∀ a b, K a = K b → a = b) (hT : P.underlying T = some (.map kt et)) (hk : P.underlying kt = some d) {ti : TypeInfo} {z0 : Value} (hE : P.info? et = some ti) (hz : ti.zero = some z0) (k : κ) :
    ((∃ p ∈ kvs, p.1 = k ∧ (Instr.lookup T (.map (some m)) (K k) false).run P w = .ok p.2 w) ∨ ((∀ p ∈ kvs, p.1 ≠ k) ∧ (Instr.lookup T (.map (some m)) (K k) false).run P w = .ok z0 w)) := by
  obtain ⟨es, c, h1, h2, h4⟩ := h.keys hK
  rcases findNow_spec (hK k) es.toList 0 (fun x hx => (h4 x hx).1) with ⟨f1, f2⟩ | ⟨j, e0, f1, f2, f3⟩
  · refine .inr ⟨fun p hp hpk => ?_, ?_⟩
    · have : (K p.1, p.2) ∈ es.toList.map (fun e => (e.key, e.val)) := by rw [h2]; exact List.mem_map.2 ⟨p, hp, rfl⟩
      obtain ⟨x, hx, he⟩ := List.mem_map.1 this
      simp only [Prod.mk.injEq] at he
      exact f2 x hx (by rw [he.1, hpk])
    · simp [Instr.lookup, run_underlying hT, MapKept.run_getObj_map h1, run_checkKey hk (hK k), run_findKey hk f1, zeroValue, typeInfo, hE, hz, Result.andThen]
  · obtain ⟨_, p, hp, he, hv⟩ := h4 e0 (List.mem_of_getElem? f2)
    refine .inl ⟨p, hp, hinj _ _ (he.symm.trans f3), ?_⟩
    rw [← hv]
    simp [Instr.lookup, run_underlying hT, MapKept.run_getObj_map h1, run_checkKey hk (hK k), run_findKey hk f1, Result.andThen]
theorem Ev.lookSet {ks : List κ} [Decidable (k ∈ ks)] (h : MapV K w m (ks.map (fun k => (k, .bool true)))) (hK : ∀ a, IsKey d (K a)) (hinj : ∀ a b, K a = K b → a = b) (hx : look e x = some (.map (some m))) (hy : look e y = some (K k)) (hT : P.underlying T = some (.map kt et)) (hk : P.underlying kt = some d) {ti : TypeInfo} (hE : P.info? et = some ti) (hz : ti.zero = some (.bool false)) :
    Ev P e (.lookup T x y false) w (.bool (decide (k ∈ ks))) := by
  intro w' hw ρ hρ o ho
  have hr := run_look (P := P) (h.ext hw (fun x => x)) hK hinj hT hk hE hz k
  have : (Instr.lookup T (.map (some m)) (K k) false).run P w' = .ok (.bool (decide (k ∈ ks))) w' := by
    rcases hr with ⟨p, hp, rfl, h1⟩ | ⟨h1, h2⟩
    · obtain ⟨q, hq, rfl⟩ := List.mem_map.1 hp
      rw [h1, decide_eq_true hq]
    · rw [h2, decide_eq_false (fun hm => h1 _ (List.mem_map.2 ⟨k, hm, rfl⟩) rfl)]
  simp [execOp, ho, hρ _ _ hx, hρ _ _ hy, this]
theorem DoV.makeMap (hT : True) : DoV P e (.makeMap T none) w (fun r w2 => r = .map (some w.heap.size) ∧ MapV K w2 w.heap.size [] ∧ Ext (fun _ => False) w w2 ∧ w2.heap.size = w.heap.size + 1) := by
  intro w' hw ρ hρ o ho
  refine ⟨_, w.alloc (.map #[] 0), w'.alloc (.map #[] 0), ?_, hw.alloc _, rfl, ⟨#[], 0, (heap_alloc w _).1, rfl, List.nodup_nil⟩, Ext.alloc w _, by simp⟩
  simp [execOp, ho, Instr.makeMap, newObj, Sem.run, hw.heap, World.alloc, Result.andThen]
theorem DoS.mapPush (h : MapV K w m kvs) (hK : ∀ a, IsKey d (K a)) (hinj : ∀ a b, K a = K b → a = b) (hn : ∀ p ∈ kvs, p.1 ≠ k) (hx : look e x = some (.map (some m))) (hy : look e y = some (K k)) (hz : look e z = some v) (hT : P.underlying T = some (.map kt et)) (hk : P.underlying kt = some d) :
    DoS P e (.mapUpdate T x y z) w (fun w2 => MapV K w2 m (kvs ++ [(k, v)]) ∧ Ext (· = m) w w2 ∧ w2.heap.size = w.heap.size) := by
  intro w' hw ρ hρ o ho
  obtain ⟨es, c, h1, h2, h3⟩ := h
  obtain ⟨es', c', g1, g2, g4⟩ := MapV.keys (d := d) (K := K) (w := w') (m := m) (kvs := kvs) ⟨es, c, by rw [hw.heap]; exact h1, h2, h3⟩ hK
  rw [hw.heap, h1] at g1
  cases g1
  have f := findNow_spec (hK k) es.toList 0 (fun x hx => (g4 x hx).1)
  rcases f with ⟨f1, f2⟩ | ⟨j, e0, f1, f2, f3⟩
  · have hset := heap_set (o' := .map (es.push ⟨K k, v, c⟩) (c + 1)) h1
    refine ⟨{ w with heap := w.heap.setIfInBounds m (.map (es.push ⟨K k, v, c⟩) (c + 1)) }, { w' with heap := w'.heap.setIfInBounds m (.map (es.push ⟨K k, v, c⟩) (c + 1)) }, ?_, ⟨by simp [hw.heap], hw.os, hw.tape, hw.output⟩, ⟨_, _, hset.1, ?_, ?_⟩, ⟨rfl, rfl, rfl, by simp, fun b _ hb => hset.2 b hb⟩, by simp⟩
    · have hb' : w'.heap[m]? = some (.map es c) := by rw [hw.heap]; exact h1
      simp [execOp, ho, hρ _ _ hx, hρ _ _ hy, hρ _ _ hz, Instr.mapUpdate, run_underlying hT, MapKept.run_getObj_map hb', run_checkKey hk (hK k), run_findKey hk f1, MapKept.run_setObj_map _ hb', Result.andThen]
    · rw [Array.toList_push, List.map_append, h2, List.map_append]
      rfl
    · rw [List.map_append, List.nodup_append]
      refine ⟨h3, by simp, fun a ha b hb => ?_⟩
      obtain ⟨p, hp, rfl⟩ := List.mem_map.1 ha
      simp only [List.map_cons, List.map_nil, List.mem_singleton] at hb
      rw [hb]
      exact hn p hp
  · exfalso
    obtain ⟨_, p, hp, he, _⟩ := g4 e0 (List.mem_of_getElem? f2)
    exact hn p hp (hinj _ _ (he.symm.trans f3))
end
theorem str_key (a : Bs) : IsKey .string (str a) := trivial
theorem str_inj' (a b : Bs) (h : str a = str b) : a = b := by
  have h1 : bs a = bs b := Value.string.inj h
  have := congrArg (fun z : ByteArray => z.data.toList) h1
  simpa [bs] using this
end Go.Proofs.YthliepcjfnjnoaaGreatDoor
