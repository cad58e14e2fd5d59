import Derived.Test.YthliepcjfnjnoaaGreatDoorB07
import Derived.Test.YthliepcjfnjnoaaGreatDoorB04
import Derived.Test.YthliepcjfnjnoaaGreatDoorB05
import Derived.Shelf.Strings.SlTrimAscii
import Derived.Test.YthliepcjfnjnoaaGreatDoorProg
import Derived.Shelf.GgSortFunc.InsertionK
import Derived.Shelf.SlSortCmp.WholeK
import Derived.Shelf.SlSortCmp.NoneTotal
import Derived.Shelf.SlicesG.Cmp
set_option linter.unusedVariables false
set_option linter.unusedSimpArgs false
set_option maxRecDepth 20000
namespace Go.Proofs.YthliepcjfnjnoaaGreatDoor
open Go page tree
theorem Len64_fn {w : World} {n : Nat} (h : n ≤ 12) : Fn Tryz.prog 165 [.int .u64 n] w (fun r w2 => (∃ m : Int, r = i64 m) ∧ Ext (fun _ => False) w w2) := by
  refine Fn.enter (fun w => Tryz.call165 _ w) Tryz.func165 rfl ?_
  refine .seq (.region ?_)
  refine .p rfl rfl (.as rfl) ?_
  refine .nil (.code (.seq (.seq (.region ?_))))
  refine .p rfl rfl (.mv rfl) ?_
  refine .p rfl rfl (.no (.ge rfl rfl) (by omega)) ?_
  refine .nil (.code (.keep [(4, _), (2, _), (0, _)] ⟨rfl, rfl, rfl, trivial⟩ (.condF rfl (.skip (.code (.seq (.seq (.keep [(2, _), (0, _)] ⟨rfl, rfl, trivial⟩ (.region ?_)))))))))
  refine .p rfl rfl (.mv rfl) ?_
  refine .p rfl rfl (.no (.ge rfl rfl) (by omega)) ?_
  refine .nil (.code (.keep [(8, _), (2, _), (0, _)] ⟨rfl, rfl, rfl, trivial⟩ (.condF rfl (.skip (.code (.seq (.seq (.keep [(2, _), (0, _)] ⟨rfl, rfl, trivial⟩ (.region ?_)))))))))
  refine .p rfl rfl (.mv rfl) ?_
  refine .p rfl rfl (.no (.ge rfl rfl) (by omega)) ?_
  refine .nil (.code (.keep [(14, _), (2, _), (0, _)] ⟨rfl, rfl, rfl, trivial⟩ (.condF rfl (.skip (.code (.seq (.keep [(2, _), (0, _)] ⟨rfl, rfl, trivial⟩ (.region ?_))))))))
  refine .p rfl rfl (.mv rfl) ?_
  refine .p rfl rfl (.mv rfl) ?_
  refine .p rfl rfl (.convB rfl rfl rfl (by omega)) ?_
  refine .p rfl rfl (.idxS (i := ((UInt8.ofNat n).toNat : Nat)) rfl rfl rfl (by omega) (by rw [Int.toNat_natCast, UInt8.toNat_ofNat', Nat.mod_eq_of_lt (by omega)]; exact List.getElem?_eq_getElem (Nat.lt_of_le_of_lt h (by decide)))) ?_
  refine .p rfl rfl (.conv8_i rfl rfl rfl) ?_
  refine .p rfl rfl (.add rfl rfl (by have := UInt8.toNat_lt (UInt8.ofNat 0); simp only [UInt8.toNat] at *; omega)) ?_
  refine .p rfl rfl (.as rfl) ?_
  refine .nil (.code ?_)
  refine .ret _ rfl ?_
  exact ⟨⟨_, rfl⟩, .refl _⟩
theorem Len_fn {w : World} {n : Nat} (h : n ≤ 12) : Fn Tryz.prog 106 [.int .u64 n] w (fun r w2 => (∃ m : Int, r = i64 m) ∧ Ext (fun _ => False) w w2) := by
  refine Fn.enter (fun w => Tryz.call106 _ w) Tryz.func106 rfl ?_
  refine .seq (.region ?_)
  refine .p rfl rfl (.as rfl) ?_
  refine .nil (.code (.seq (.keep [(0, _)] ⟨rfl, trivial⟩ (.condF rfl (.skip (.code (.seq (.region ?_))))))))
  refine .p rfl rfl (.mv rfl) ?_
  refine .call (first := []) (captured := []) rfl rfl rfl rfl (Len64_fn h) ?_
  rintro _ w7 ⟨⟨m, rfl⟩, X7⟩
  refine .p rfl rfl (.as rfl) ?_
  refine .nil (.code ?_)
  refine .ret _ rfl ?_
  exact ⟨⟨_, rfl⟩, X7⟩
theorem pdq_fn {w : World} {b n cap : Nat} {xs : List Entry} {Q : Nat → Prop} {m : Int} (hO : Own tEntry Q 85 w (.slice (some ⟨b, 0, none⟩) n cap) xs b) (hn : n = xs.length) (hQ : ∀ k, Q k → ¬ k = b) (h1 : 1 ≤ n) (hl : n ≤ 12) : Fn Tryz.prog 105 [.slice (some ⟨b, 0, none⟩) n cap, i64 0, i64 n, i64 m, .func (.func 69) #[] #[]] w (fun r w2 => r = .tuple #[] ∧ (∃ ys, ys.Perm xs ∧ ys.Pairwise gtE ∧ Own tEntry Q 85 w2 (.slice (some ⟨b, 0, none⟩) n cap) ys b) ∧ Ext (· = b) w w2) := by
  refine Fn.enter (fun w => Tryz.call105 _ w) Tryz.func105 rfl ?_
  refine .seq (.region ?_)
  refine .p rfl rfl (.as rfl) ?_
  refine .nil (.code (.seq (.region ?_)))
  refine .p rfl rfl (.as rfl) ?_
  refine .nil (.code (.block ?_))
  refine .loop (S := Unit) (fun s => [(0, .slice (some ⟨b, 0, none⟩) n cap), (1, i64 0), (2, i64 n), (3, i64 m), (4, .func (.func 69) #[] #[]), (10, .bool true), (11, .bool true)]) (fun s => w) (fun s => True) (fun s => 0) () ⟨rfl, rfl, rfl, rfl, rfl, rfl, rfl, trivial⟩ rfl trivial ?_
  rintro ⟨⟩ J _ again
  change G _ [(0, .slice (some ⟨b, 0, none⟩) n cap), (1, i64 0), (2, i64 n), (3, i64 m), (4, .func (.func 69) #[] #[]), (10, .bool true), (11, .bool true)] _ _ w
  refine .block (.seq (.region ?_))
  refine .p rfl rfl (.mv rfl) ?_
  refine .p rfl rfl (.mv rfl) ?_
  refine .p rfl rfl (.sub rfl rfl (by omega)) ?_
  refine .p rfl rfl (.as rfl) ?_
  refine .nil (.code (.seq (.seq (.keep [(12, _), (0, _), (1, _), (2, _), (3, _), (4, _), (10, _), (11, _)] ⟨rfl, rfl, rfl, rfl, rfl, rfl, rfl, rfl, trivial⟩ (.region ?_)))))
  refine .p rfl rfl (.mv rfl) ?_
  refine .p rfl rfl (.yes (.le rfl rfl) (by omega)) ?_
  refine .nil (.code (.keep [(25, _), (12, _), (0, _), (1, _), (2, _), (3, _), (4, _), (10, _), (11, _)] ⟨rfl, rfl, rfl, rfl, rfl, rfl, rfl, rfl, rfl, trivial⟩ (.condT rfl (.seq (.keep [(0, _), (1, _), (2, _), (4, _)] ⟨rfl, rfl, rfl, rfl, trivial⟩ (.region ?_))))))
  refine .p rfl rfl (.mv rfl) ?_
  refine .p rfl rfl (.mv rfl) ?_
  refine .p rfl rfl (.mv rfl) ?_
  refine .p rfl rfl (.mv rfl) ?_
  refine .call (first := []) (captured := []) rfl rfl rfl rfl (insSort_fn hO hn hQ h1 hl) ?_
  rintro _ w30 ⟨rfl, hy, X30⟩
  refine .nil (.code ?_)
  refine .ret _ rfl ?_
  exact ⟨rfl, hy, X30⟩
theorem pdq0_fn {w : World} {a : Option Addr} {cap : Nat} {m : Int} : Fn Tryz.prog 105 [.slice a 0 cap, i64 0, i64 0, i64 m, .func (.func 69) #[] #[]] w (fun r w2 => r = .tuple #[] ∧ Ext (fun _ => False) w w2) := by
  refine Fn.enter (fun w => Tryz.call105 _ w) Tryz.func105 rfl ?_
  refine .seq (.region ?_)
  refine .p rfl rfl (.as rfl) ?_
  refine .nil (.code (.seq (.region ?_)))
  refine .p rfl rfl (.as rfl) ?_
  refine .nil (.code (.block ?_))
  refine .loop (S := Unit) (fun s => [(0, .slice a 0 cap), (1, i64 0), (2, i64 0), (3, i64 m), (4, .func (.func 69) #[] #[]), (10, .bool true), (11, .bool true)]) (fun s => w) (fun s => True) (fun s => 0) () ⟨rfl, rfl, rfl, rfl, rfl, rfl, rfl, trivial⟩ rfl trivial ?_
  rintro ⟨⟩ J _ again
  change G _ [(0, .slice a 0 cap), (1, i64 0), (2, i64 0), (3, i64 m), (4, .func (.func 69) #[] #[]), (10, .bool true), (11, .bool true)] _ _ w
  refine .block (.seq (.region ?_))
  refine .p rfl rfl (.mv rfl) ?_
  refine .p rfl rfl (.mv rfl) ?_
  refine .p rfl rfl (.sub rfl rfl (by omega)) ?_
  refine .p rfl rfl (.as rfl) ?_
  refine .nil (.code (.seq (.seq (.keep [(12, _), (0, _), (1, _), (2, _), (3, _), (4, _), (10, _), (11, _)] ⟨rfl, rfl, rfl, rfl, rfl, rfl, rfl, rfl, trivial⟩ (.region ?_)))))
  refine .p rfl rfl (.mv rfl) ?_
  refine .p rfl rfl (.yes (.le rfl rfl) (by omega)) ?_
  refine .nil (.code (.keep [(25, _), (12, _), (0, _), (1, _), (2, _), (3, _), (4, _), (10, _), (11, _)] ⟨rfl, rfl, rfl, rfl, rfl, rfl, rfl, rfl, rfl, trivial⟩ (.condT rfl (.seq (.keep [(0, _), (1, _), (2, _), (4, _)] ⟨rfl, rfl, rfl, rfl, trivial⟩ (.region ?_))))))
  refine .p rfl rfl (.mv rfl) ?_
  refine .p rfl rfl (.mv rfl) ?_
  refine .p rfl rfl (.mv rfl) ?_
  refine .p rfl rfl (.mv rfl) ?_
  refine .call (first := []) (captured := []) rfl rfl rfl rfl (insSort0_fn) ?_
  rintro _ w30 ⟨rfl, X30⟩
  refine .nil (.code ?_)
  refine .ret _ rfl ?_
  exact ⟨rfl, X30⟩
theorem SortE_fn {w : World} {b n cap : Nat} {xs : List Entry} {Q : Nat → Prop} (hO : Own tEntry Q 85 w (.slice (some ⟨b, 0, none⟩) n cap) xs b) (hn : n = xs.length) (hQ : ∀ k, Q k → ¬ k = b) (h1 : 1 ≤ n) (hl : n ≤ 12) : Fn Tryz.prog 68 [.slice (some ⟨b, 0, none⟩) n cap, .func (.func 69) #[] #[]] w (fun r w2 => r = .tuple #[] ∧ (∃ ys, ys.Perm xs ∧ ys.Pairwise gtE ∧ Own tEntry Q 85 w2 (.slice (some ⟨b, 0, none⟩) n cap) ys b) ∧ Ext (· = b) w w2) := by
  refine Fn.enter (fun w => Tryz.call68 _ w) Tryz.func68 rfl ?_
  refine .seq (.region ?_)
  refine .p rfl rfl (.mv rfl) ?_
  refine .p rfl rfl (.len rfl rfl) ?_
  refine .p rfl rfl (.as rfl) ?_
  refine .nil (.code (.keep [(4, _), (0, _), (1, _)] ⟨rfl, rfl, rfl, trivial⟩ (.region ?_)))
  refine .p rfl rfl (.mv rfl) ?_
  refine .p rfl rfl (.mv rfl) ?_
  refine .p rfl rfl (.mv rfl) ?_
  refine .p rfl rfl (.convU rfl rfl rfl (by omega)) ?_
  refine .call (first := []) (captured := []) rfl rfl rfl rfl (Len_fn (n := n) (by omega)) ?_
  rintro _ w11 ⟨⟨m, rfl⟩, X11⟩
  refine .p rfl rfl (.mv rfl) ?_
  refine .call (first := []) (captured := []) rfl rfl rfl rfl (pdq_fn (hO.ext0 X11) hn hQ h1 hl) ?_
  rintro _ w13 ⟨rfl, hy, X13⟩
  refine .nil ?_
  refine .fin _ rfl ?_
  exact ⟨rfl, hy, (X11.mono (fun _ _ h => h.elim)).trans X13⟩
theorem SortE0_fn {w : World} {a : Option Addr} {cap : Nat} : Fn Tryz.prog 68 [.slice a 0 cap, .func (.func 69) #[] #[]] w (fun r w2 => r = .tuple #[] ∧ Ext (fun _ => False) w w2) := by
  refine Fn.enter (fun w => Tryz.call68 _ w) Tryz.func68 rfl ?_
  refine .seq (.region ?_)
  refine .p rfl rfl (.mv rfl) ?_
  refine .p rfl rfl (.len rfl rfl) ?_
  refine .p rfl rfl (.as rfl) ?_
  refine .nil (.code (.keep [(4, _), (0, _), (1, _)] ⟨rfl, rfl, rfl, trivial⟩ (.region ?_)))
  refine .p rfl rfl (.mv rfl) ?_
  refine .p rfl rfl (.mv rfl) ?_
  refine .p rfl rfl (.mv rfl) ?_
  refine .p rfl rfl (.convU rfl rfl rfl (by omega)) ?_
  refine .call (first := []) (captured := []) rfl rfl rfl rfl (Len_fn (n := 0) (by omega)) ?_
  rintro _ w11 ⟨⟨m, rfl⟩, X11⟩
  refine .p rfl rfl (.mv rfl) ?_
  refine .call (first := []) (captured := []) rfl rfl rfl rfl (pdq0_fn) ?_
  rintro _ w13 ⟨rfl, X13⟩
  refine .nil ?_
  refine .fin _ rfl ?_
  exact ⟨rfl, X11.trans X13⟩
theorem SortO_fn {w : World} {v : Value} {xs : List Entry} {Q B : Nat → Prop} (hO : OwnO tEntry Q 85 w v xs B) (hQ : ∀ k, Q k → ¬ B k) (hl : xs.length ≤ 12) : Fn Tryz.prog 68 [v, .func (.func 69) #[] #[]] w (fun r w2 => r = .tuple #[] ∧ (∃ ys, ys.Perm xs ∧ ys.Pairwise gtE ∧ OwnO tEntry Q 85 w2 v ys B) ∧ Ext B w w2) := by
  rcases hO with ⟨rfl, rfl⟩ | ⟨b, hb, hlt, hO⟩
  · exact SortE0_fn.mono fun r w2 ⟨h1, h2⟩ => ⟨h1, ⟨[], .refl _, .nil, OwnO.nil⟩, h2.mono (fun _ _ h => h.elim)⟩
  · obtain ⟨a, cap, rfl, hc⟩ := Own.val hO
    cases xs with
    | nil => exact SortE0_fn.mono fun r w2 ⟨h1, h2⟩ => ⟨h1, ⟨[], .refl _, .nil, OwnO.of (hO.ext0 h2) hb⟩, h2.mono (fun _ _ h => h.elim)⟩
    | cons x xs =>
      have hR := Own.rep hO (Q' := All) trivial (fun _ _ _ => trivial)
      obtain ⟨b0, o0, c0, ue, e, _, _, _⟩ := Sl.at hR (i := 0) rfl
      cases e
      obtain ⟨rfl, rfl⟩ : b0 = b ∧ o0 = 0 := by
        obtain ⟨_, ⟨h, _⟩ | ⟨cap', us, sp, h, _⟩⟩ := hO
        · cases h
        · cases h; exact ⟨rfl, rfl⟩
      exact (SortE_fn hO rfl (fun k hk e => hQ k hk (e ▸ hb)) (by simp) hl).mono fun r w2 ⟨h1, ⟨ys, h2, h3, h4⟩, h5⟩ => ⟨h1, ⟨ys, h2, h3, OwnO.of h4 hb⟩, h5.mono (fun k _ e => e ▸ hb)⟩
end Go.Proofs.YthliepcjfnjnoaaGreatDoor
namespace Go.Proofs.YthliepcjfnjnoaaGreatDoor
open Go
namespace room
structure Piece where
  fr : Int
  ct : Int
deriving DecidableEq
def tPiece : Ty Piece := (tInt.pair tInt).map (fun p => (p.fr, p.ct))
theorem tPiece.val {P : Nat → Prop} {w : World} {v : Value} {p : Piece} (h : tPiece.rep P w v p) : v = .agg #[i64 p.fr, i64 p.ct] ∧ (-9223372036854775808 ≤ p.fr ∧ p.fr ≤ 9223372036854775807) ∧ -9223372036854775808 ≤ p.ct ∧ p.ct ≤ 9223372036854775807 := by
  obtain ⟨u, u', rfl, ⟨rfl, h1⟩, rfl, h2⟩ := h
  exact ⟨rfl, h1, h2⟩
theorem tPiece.mk {P : Nat → Prop} {w : World} {p : Piece} (h1 : -9223372036854775808 ≤ p.fr ∧ p.fr ≤ 9223372036854775807) (h2 : -9223372036854775808 ≤ p.ct ∧ p.ct ≤ 9223372036854775807) : tPiece.rep P w (.agg #[i64 p.fr, i64 p.ct]) p :=
  ⟨i64 p.fr, i64 p.ct, rfl, ⟨rfl, h1⟩, rfl, h2⟩
def okP (count : Int) (p : Piece) : Prop := 1 ≤ p.ct ∧ 0 ≤ p.fr ∧ p.fr < count ∧ p.ct ≤ count - p.fr
instance (count : Int) (p : Piece) : Decidable (okP count p) := by unfold okP; infer_instance
def apart (p q : Piece) : Prop := p.fr + p.ct ≤ q.fr ∨ q.fr + q.ct ≤ p.fr
instance (p q : Piece) : Decidable (apart p q) := by unfold apart; infer_instance
def mayP (count : Int) (l : List Piece) : Prop := (∀ p ∈ l, okP count p) ∧ l.Pairwise apart
instance (count : Int) (l : List Piece) : Decidable (mayP count l) := by unfold mayP; infer_instance
def checkR (count : Int) (l : List Piece) : Int :=
  if count < 0 ∨ 4096 < count then 2 else if 4096 < l.length then 4 else if mayP count l then 0 else 8
def Rises (s : List Piece) : Prop := s.Pairwise (fun p q => p.fr + p.ct ≤ q.fr)
theorem apart_symm {p q : Piece} (h : apart p q) : apart q p := h.symm
theorem check_ok {count : Int} {l : List Piece} (h : checkR count l = 0) : 0 ≤ count ∧ count ≤ 4096 ∧ l.length ≤ 4096 ∧ mayP count l := by
  unfold checkR at h
  split at h
  · cases h
  · split at h
    · cases h
    · split at h
      · rename_i h1 h2 h3; exact ⟨by omega, by omega, by omega, h3⟩
      · cases h
theorem rises_of : ∀ {s : List Piece}, (∀ p ∈ s, 1 ≤ p.ct) → (∀ i (h : i + 1 < s.length), s[i].fr + s[i].ct ≤ s[i + 1].fr) → Rises s
  | [], _, _ => .nil
  | [p], _, _ => List.pairwise_singleton _ _
  | p :: q :: s, hc, h => by
    have ih := rises_of (s := q :: s) (fun x hx => hc x (List.mem_cons_of_mem _ hx)) (fun i hi => by have := h (i + 1) (by simpa using hi); simpa using this)
    have h0 := h 0 (by simp)
    simp at h0
    refine .cons (fun x hx => ?_) ih
    rcases List.mem_cons.1 hx with rfl | hx
    · exact h0
    · have := (List.pairwise_cons.1 ih).1 x hx
      have h2 := hc q (by simp)
      omega
theorem may_of_rises {count : Int} {l s : List Piece} (hp : s.Perm l) (hok : ∀ p ∈ l, okP count p) (h : Rises s) : mayP count l := by
  refine ⟨hok, ?_⟩
  exact (hp.pairwise_iff (R := apart) (fun h => apart_symm h)).1 (h.imp (fun hpq => .inl hpq))
theorem rises_of_may {count : Int} {l s : List Piece} (hp : s.Perm l) (hm : mayP count l) (hs : s.Pairwise (fun p q => p.fr ≤ q.fr)) : Rises s := by
  have ha := (hp.pairwise_iff (R := apart) (fun h => apart_symm h)).2 hm.2
  have hok : ∀ p ∈ s, okP count p := fun p h => hm.1 p (hp.mem_iff.1 h)
  have := List.Pairwise.and_mem.1 (hs.and ha)
  refine this.imp (fun {p q} h => ?_)
  obtain ⟨h1, h2, h3, h4⟩ := h
  have := hok q h2
  unfold okP at this
  rcases h4 with h4 | h4
  · exact h4
  · omega
end room
end Go.Proofs.YthliepcjfnjnoaaGreatDoor
namespace Go.Proofs.YthliepcjfnjnoaaGreatDoor
open Go Go.Proofs Go.Shelf
def trimL_ren : Go.Shelf.Ren := ⟨fun | 119 => 276 | 120 => 262 | 137 => 275 | 151 => 237 | 152 => 261 | 160 => 146 | 197 => 236 | 217 => 224 | 224 => 226 | 225 => 225 | 227 => 191 | 228 => 235 | 231 => 189 | 232 => 190 | 233 => 192 | 234 => 193 | 235 => 194 | 236 => 195 | 260 => 260 | 266 => 252 | 271 => 238 | n => n, fun | 0 => 0 | 3 => 3 | 4 => 4 | 5 => 5 | 9 => 9 | 21 => 21 | 46 => 88 | 105 => 348 | 116 => 308 | 117 => 309 | 119 => 382 | 124 => 312 | 138 => 384 | 139 => 385 | n => n, fun | 3 => 5 | 4 => 6 | n => n⟩
theorem trimL : Lays.n160 Tryz.prog trimL_ren where
  mixed := by kernel_rfl
  f119 := Tryz.func276.trans (congrArg some (by kernel_rfl))
  f120 := Tryz.func262.trans (congrArg some (by kernel_rfl))
  f137 := Tryz.func275.trans (congrArg some (by kernel_rfl))
  f151 := Tryz.func237.trans (congrArg some (by kernel_rfl))
  f152 := Tryz.func261.trans (congrArg some (by kernel_rfl))
  f160 := Tryz.func146.trans (congrArg some (by kernel_rfl))
  f197 := Tryz.func236.trans (congrArg some (by kernel_rfl))
  f217 := Tryz.func224.trans (congrArg some (by kernel_rfl))
  f224 := Tryz.func226.trans (congrArg some (by kernel_rfl))
  f225 := Tryz.func225.trans (congrArg some (by kernel_rfl))
  f227 := Tryz.func191.trans (congrArg some (by kernel_rfl))
  f228 := Tryz.func235.trans (congrArg some (by kernel_rfl))
  f231 := Tryz.func189.trans (congrArg some (by kernel_rfl))
  f232 := Tryz.func190.trans (congrArg some (by kernel_rfl))
  f233 := Tryz.func192.trans (congrArg some (by kernel_rfl))
  f234 := Tryz.func193.trans (congrArg some (by kernel_rfl))
  f235 := Tryz.func194.trans (congrArg some (by kernel_rfl))
  f236 := Tryz.func195.trans (congrArg some (by kernel_rfl))
  f260 := Tryz.func260.trans (congrArg some (by kernel_rfl))
  f266 := Tryz.func252.trans (congrArg some (by kernel_rfl))
  f271 := Tryz.func238.trans (congrArg some (by kernel_rfl))
  t0 := Tryz.underlying0
  a0 := Tryz.isAgg0
  z0 := Tryz.sizeOf0
  v0 := Tryz.zeroValue0
  t3 := Tryz.underlying3
  a3 := Tryz.isAgg3
  z3 := Tryz.sizeOf3
  v3 := Tryz.zeroValue3
  t4 := Tryz.underlying4
  a4 := Tryz.isAgg4
  z4 := Tryz.sizeOf4
  v4 := Tryz.zeroValue4
  t5 := Tryz.underlying5
  a5 := Tryz.isAgg5
  z5 := Tryz.sizeOf5
  v5 := Tryz.zeroValue5
  t9 := Tryz.underlying9
  a9 := Tryz.isAgg9
  z9 := Tryz.sizeOf9
  v9 := Tryz.zeroValue9
  t21 := Tryz.underlying21
  a21 := Tryz.isAgg21
  z21 := Tryz.sizeOf21
  v21 := Tryz.zeroValue21
  t46 := Tryz.underlying88
  a46 := Tryz.isAgg88
  z46 := Tryz.sizeOf88
  v46 := Tryz.zeroValue88
  t105 := Tryz.underlying348
  a105 := Tryz.isAgg348
  z105 := Tryz.sizeOf348
  v105 := Tryz.zeroValue348
  t116 := Tryz.underlying308
  a116 := Tryz.isAgg308
  z116 := Tryz.sizeOf308
  t117 := Tryz.underlying309
  a117 := Tryz.isAgg309
  z117 := Tryz.sizeOf309
  v117 := Tryz.zeroValue309
  t119 := Tryz.underlying382
  a119 := Tryz.isAgg382
  z119 := Tryz.sizeOf382
  t124 := Tryz.underlying312
  a124 := Tryz.isAgg312
  z124 := Tryz.sizeOf312
  v124 := Tryz.zeroValue312
  t138 := Tryz.underlying384
  a138 := Tryz.isAgg384
  z138 := Tryz.sizeOf384
  v138 := Tryz.zeroValue384
  t139 := Tryz.underlying385
  a139 := Tryz.isAgg385
  z139 := Tryz.sizeOf385
  v139 := Tryz.zeroValue385
  g3 := by kernel_rfl
  g4 := by kernel_rfl
namespace files
def cutN : Bs := [97, 98, 99, 100, 101, 102, 103, 104, 105, 106, 107, 108, 109, 110, 111, 112, 113, 114, 115, 116, 117, 118, 119, 120, 121, 122, 48, 49, 50, 51, 52, 53, 54, 55, 56, 57, 45, 95, 46]
def nameC (c : UInt8) : Bool := decide (97 ≤ c.toNat ∧ c.toNat ≤ 122 ∨ 48 ≤ c.toNat ∧ c.toNat ≤ 57 ∨ c.toNat = 45 ∨ c.toNat = 95 ∨ c.toNat = 46)
theorem cutN_all : ∀ n, n < 256 → cutN.contains (UInt8.ofNat n) = nameC (UInt8.ofNat n) := by decide +kernel
theorem cutN_eq (c : UInt8) : cutN.contains c = nameC c := by
  have := cutN_all c.toNat c.toNat_lt
  rwa [UInt8.ofNat_toNat] at this
def nameF (s : Bs) : Bool := decide (1 ≤ s.length ∧ s.length ≤ 32) && s.all nameC
theorem dropWhile_nil {p : UInt8 → Bool} : ∀ {l : Bs}, l.dropWhile p = [] ↔ l.all p = true
  | [] => by simp
  | c :: l => by
    rw [List.dropWhile_cons, List.all_cons]
    by_cases h : p c = true
    · rw [if_pos h, dropWhile_nil (l := l), h, Bool.true_and]
    · rw [if_neg h]
      simp [h]
theorem dropWhile_all {p : UInt8 → Bool} : ∀ l : Bs, (l.dropWhile p).all p = l.all p
  | [] => rfl
  | c :: l => by
    rw [List.dropWhile_cons]
    by_cases h : p c = true
    · rw [if_pos h, dropWhile_all l, List.all_cons, h, Bool.true_and]
    · rw [if_neg h]
theorem trim_nil {l : Bs} : Lib.trimS l cutN = [] ↔ l.all nameC = true := by
  have e : (fun c => cutN.contains c) = nameC := funext cutN_eq
  unfold Lib.trimS Lib.trimLeftS Lib.trimRightS
  rw [e, dropWhile_nil, List.all_reverse, dropWhile_all, List.all_reverse]
theorem trim_dec (l : Bs) : decide (Lib.trimS l cutN = []) = l.all nameC := by
  by_cases h : l.all nameC = true
  · rw [h]; exact decide_eq_true (trim_nil.2 h)
  · rw [Bool.eq_false_iff.2 h]; exact decide_eq_false (fun h2 => h (trim_nil.1 h2))
attribute [local irreducible] Lib.trimS
theorem Trim_fn {w : World} {s : Bs} (hs : s.length < Lim) : Fn Tryz.prog 146 [str s, str cutN] w (fun r w2 => r = str (Lib.trimS s cutN) ∧ Ext (fun _ => False) w w2) := by
  refine ⟨fun w' => Tryz.call146 _ w', fun w' hw => ?_⟩
  refine (Any.strings_Trim_laid trimL (by kernel_rfl) (bs s) ⟨#[97, 98, 99, 100, 101, 102, 103, 104, 105, 106, 107, 108, 109, 110, 111, 112, 113, 114, 115, 116, 117, 118, 119, 120, 121, 122, 48, 49, 50, 51, 52, 53, 54, 55, 56, 57, 45, 95, 46]⟩ w' (by rw [bs_size]; simp only [Lim] at hs; omega) (by decide) (ascii_of_all (by decide))).mono ?_
  rintro ev w2 ⟨rfl, hB⟩
  refine ⟨_, _, .refl _, rfl, ?_, (Ext.same hw).trans ⟨hB.os, hB.tape, hB.output, hB.size, fun k hk _ => hB.block k hk⟩⟩
  have h1 : (bs s).data.toList = s := rfl
  rw [h1]
  rfl
end files
open files
theorem name_fn {w : World} {s : Bs} (hs : s.length < Lim) : Fn Tryz.prog 97 [str s] w (fun r w2 => r = .bool (nameF s) ∧ Ext (fun _ => False) w w2) := by
  refine Fn.enter (fun w => Tryz.call97 _ w) Tryz.func97 rfl ?_
  refine .seq (.region ?_)
  refine .p rfl rfl (.as rfl) ?_
  refine .nil (.code (.seq (.keep [(0, _)] ⟨rfl, trivial⟩ (.region ?_))))
  refine .p rfl rfl (.mv rfl) ?_
  refine .p rfl rfl (.lenS rfl rfl) ?_
  refine .p rfl rfl (.gt rfl rfl) ?_
  refine .p rfl rfl (.mv rfl) ?_
  refine .caseD 6 rfl (fun c6 => ?_) (fun c6 => ?_)
  · refine .p rfl rfl (.mv rfl) ?_
    refine .p rfl rfl (.lenS rfl rfl) ?_
    refine .p rfl rfl (.le rfl rfl) ?_
    refine .p rfl rfl (.pickT rfl rfl) ?_
    refine .p rfl rfl (.mv rfl) ?_
    refine .caseD 11 rfl (fun c11 => ?_) (fun c11 => ?_)
    · refine .p rfl rfl (.mv rfl) ?_
      refine .call (first := []) (captured := []) rfl rfl rfl rfl (Trim_fn hs) ?_
      rintro r13 w13 ⟨rfl, X13⟩
      refine .p rfl rfl (.eqS rfl rfl) ?_
      refine .p rfl rfl (.pickT rfl rfl) ?_
      refine .p rfl rfl (.as rfl) ?_
      refine .nil (.code ?_)
      refine .ret _ rfl ?_
      refine ⟨?_, X13⟩
      show Value.bool (decide (Lib.trimS s cutN = [])) = Value.bool (nameF s)
      rw [trim_dec, nameF, decide_eq_true (by omega), Bool.true_and]
    · refine .skip rfl rfl ?_
      refine .skip rfl rfl ?_
      refine .skip rfl rfl ?_
      refine .p rfl rfl (.pickF rfl rfl) ?_
      refine .p rfl rfl (.as rfl) ?_
      refine .nil (.code ?_)
      refine .ret _ rfl ?_
      refine ⟨?_, .refl _⟩
      show Value.bool false = Value.bool (nameF s)
      rw [nameF, decide_eq_false (by omega), Bool.false_and]
  · refine .skip rfl rfl ?_
    refine .skip rfl rfl ?_
    refine .skip rfl rfl ?_
    refine .p rfl rfl (.pickF rfl rfl) ?_
    refine .p rfl rfl (.mv rfl) ?_
    refine .skip rfl rfl ?_
    refine .skip rfl rfl ?_
    refine .skip rfl rfl ?_
    refine .p rfl rfl (.pickF rfl rfl) ?_
    refine .p rfl rfl (.as rfl) ?_
    refine .nil (.code ?_)
    refine .ret _ rfl ?_
    refine ⟨?_, .refl _⟩
    show Value.bool false = Value.bool (nameF s)
    rw [nameF, decide_eq_false (by omega), Bool.false_and]
end Go.Proofs.YthliepcjfnjnoaaGreatDoor
namespace Go.Proofs.YthliepcjfnjnoaaGreatDoor
open Go
theorem Ext.and {S T : Nat → Prop} {a b c : World} (h : Ext S a b) (k : Ext T b c) (hs : ∀ i, T i → i < a.heap.size → S i) : Ext S a c :=
  ⟨k.os.trans h.os, k.tape.trans h.tape, k.output.trans h.output, Nat.le_trans h.size k.size, fun i hi hn =>
    (k.block i (Nat.lt_of_lt_of_le hi h.size) (fun ht => hn (hs i ht hi))).trans (h.block i hi hn)⟩
namespace files
open room
structure File where
  name : Bs
  size : Int
  ps : List Piece
structure Dir where
  gen : Int
  fs : List File
def tFile : Ty File := (tStr.pair (tInt.pair (Sl tPiece))).map (fun x => (x.name, x.size, x.ps))
def tDir : Ty Dir := (tInt.pair (Sl tFile)).map (fun x => (x.gen, x.fs))
theorem tFile.val {P : Nat → Prop} {w : World} {v : Value} {x : File} (h : tFile.rep P w v x) : ∃ a cap, v = .agg #[str x.name, i64 x.size, .slice a x.ps.length cap] ∧ (Sl tPiece).rep P w (.slice a x.ps.length cap) x.ps ∧ x.name.length < Lim ∧ (-9223372036854775808 ≤ x.size ∧ x.size ≤ 9223372036854775807) := by
  obtain ⟨_, _, rfl, ⟨rfl, h1⟩, _, u, rfl, ⟨rfl, h2⟩, h3⟩ := h
  obtain ⟨a, cap, rfl, _⟩ := Sl.val h3
  exact ⟨a, cap, rfl, h3, h1, h2⟩
theorem tFile.mk {P : Nat → Prop} {w : World} {x : File} {a : Option Addr} {n cap : Nat} (h : (Sl tPiece).rep P w (.slice a n cap) x.ps) (h1 : x.name.length < Lim) (h2 : -9223372036854775808 ≤ x.size ∧ x.size ≤ 9223372036854775807) : tFile.rep P w (.agg #[str x.name, i64 x.size, .slice a n cap]) x :=
  ⟨str x.name, .agg #[i64 x.size, .slice a n cap], rfl, ⟨rfl, h1⟩, i64 x.size, .slice a n cap, rfl, ⟨rfl, h2⟩, h⟩
theorem tDir.val {P : Nat → Prop} {w : World} {v : Value} {x : Dir} (h : tDir.rep P w v x) : ∃ a cap, v = .agg #[i64 x.gen, .slice a x.fs.length cap] ∧ (Sl tFile).rep P w (.slice a x.fs.length cap) x.fs ∧ (-9223372036854775808 ≤ x.gen ∧ x.gen ≤ 9223372036854775807) := by
  obtain ⟨_, u, rfl, ⟨rfl, h2⟩, h3⟩ := h
  obtain ⟨a, cap, rfl, _⟩ := Sl.val h3
  exact ⟨a, cap, rfl, h3, h2⟩
theorem tDir.mk {P : Nat → Prop} {w : World} {x : Dir} {a : Option Addr} {n cap : Nat} (h : (Sl tFile).rep P w (.slice a n cap) x.fs) (h2 : -9223372036854775808 ≤ x.gen ∧ x.gen ≤ 9223372036854775807) : tDir.rep P w (.agg #[i64 x.gen, .slice a n cap]) x :=
  ⟨i64 x.gen, .slice a n cap, rfl, ⟨rfl, h2⟩, h⟩
def allP (l : List File) : List Piece := l.flatMap (·.ps)
def needF (n : Int) : Int := (n + 127) / 128
def manyF (l : List Piece) : Int := if checkR 4096 l = 0 then (l.map (·.ct)).sum else 0
def okAt (l : List File) (i : Nat) (h : i < l.length) : Prop :=
  nameF l[i].name = true ∧ (∀ h0 : 0 < i, Op.bytesLess (l[i - 1]'(by omega)).name l[i].name = true) ∧ 0 ≤ l[i].size ∧ l[i].size ≤ 524288 ∧ manyF l[i].ps = needF l[i].size
def mayD (x : Dir) : Prop := (1 ≤ x.gen ∧ x.gen < 4611686018427387904) ∧ checkR 4096 (allP x.fs) = 0 ∧ (∀ p ∈ allP x.fs, 80 ≤ p.fr) ∧ ∀ i (h : i < x.fs.length), okAt x.fs i h
open Classical in
noncomputable def checkD (x : Dir) : Int := if 32 < x.fs.length then 42 else if mayD x then 0 else 8
def pieceB (p : Piece) : Bs := smallF p.fr.toNat ++ smallF p.ct.toNat
def fileB (f : File) : Bs := textF f.name ++ smallF f.size.toNat ++ smallF f.ps.length ++ f.ps.flatMap pieceB
def bodyD (l : List File) : Bs := smallF l.length ++ l.flatMap fileB
def slotsD (g : Nat) (b : Bs) : Bs := (List.range 8).flatMap (fun i => put8 g ++ [UInt8.ofNat i] ++ (b.drop (i * 119)).take 119)
noncomputable def writeF (x : Dir) : Bs × Int :=
  if ¬ checkD x = 0 then ([], checkD x) else if 952 < (bodyD x.fs).length then ([], 42) else (slotsD x.gen.toNat (bodyD x.fs ++ List.replicate (952 - (bodyD x.fs).length) 0), 0)
theorem checkD_42 {x : Dir} (h : 32 < x.fs.length) : checkD x = 42 := by unfold checkD; rw [if_pos h]
theorem checkD_8 {x : Dir} (h : ¬ 32 < x.fs.length) (h2 : ¬ mayD x) : checkD x = 8 := by unfold checkD; rw [if_neg h, if_neg h2]
theorem checkD_0 {x : Dir} (h : ¬ 32 < x.fs.length) (h2 : mayD x) : checkD x = 0 := by unfold checkD; rw [if_neg h, if_pos h2]
theorem checkD_ok {x : Dir} (h : checkD x = 0) : x.fs.length ≤ 32 ∧ mayD x := by
  unfold checkD at h
  split at h
  · cases h
  · rename_i h1
    split at h
    · rename_i h2; exact ⟨by omega, h2⟩
    · cases h
theorem writeF_e {x : Dir} (h : ¬ checkD x = 0) : writeF x = ([], checkD x) := by unfold writeF; rw [if_pos h]
theorem writeF_42 {x : Dir} (h : checkD x = 0) (h2 : 952 < (bodyD x.fs).length) : writeF x = ([], 42) := by unfold writeF; rw [if_neg (by rw [h]; exact fun h => h rfl), if_pos h2]
theorem writeF_0 {x : Dir} (h : checkD x = 0) (h2 : ¬ 952 < (bodyD x.fs).length) : writeF x = (slotsD x.gen.toNat (bodyD x.fs ++ List.replicate (952 - (bodyD x.fs).length) 0), 0) := by unfold writeF; rw [if_neg (by rw [h]; exact fun h => h rfl), if_neg h2]
theorem piece_ok {x : Dir} (h : mayD x) {f : File} (hf : f ∈ x.fs) {p : Piece} (hp : p ∈ f.ps) : 0 ≤ p.fr ∧ p.fr < 4096 ∧ 1 ≤ p.ct ∧ p.ct ≤ 4096 := by
  have hm := (check_ok h.2.1).2.2.2.1 p (List.mem_flatMap.2 ⟨f, hf, hp⟩)
  unfold okP at hm
  omega
theorem files_step {α : Type} {l : List File} {i : Nat} (h : i < l.length) (f : File → List α) : (l.take (i + 1)).flatMap f = (l.take i).flatMap f ++ f l[i] := by
  rw [List.take_succ_eq_append_getElem h, List.flatMap_append]
  simp
theorem pieces_step {α : Type} {l : List Piece} {i : Nat} (h : i < l.length) (f : Piece → List α) : (l.take (i + 1)).flatMap f = (l.take i).flatMap f ++ f l[i] := by
  rw [List.take_succ_eq_append_getElem h, List.flatMap_append]
  simp
theorem ints_step {α : Type} {l : List Int} {i : Nat} (h : i < l.length) (f : Int → List α) : (l.take (i + 1)).flatMap f = (l.take i).flatMap f ++ f l[i] := by
  rw [List.take_succ_eq_append_getElem h, List.flatMap_append]
  simp
def numB (n : Int) : Bs := smallF n.toNat
end files
open files
theorem put_fn {w : World} {u v : Value} {l : List Int} {c : Nat} {acc : Bs} {B : Nat → Prop} (hl : (Sl tInt).rep (fun k => ¬ (k = c ∨ B k)) w u l) (hp : ∀ n ∈ l, 0 ≤ n) (hl2 : l.length ≤ 10) (hacc : acc.length ≤ 140000000000) (hc : Blk w c 43 [v]) (hG : OwnO tByte (fun _ => False) 5 w v acc B) (hB : ¬ B c) : Fn Tryz.prog 77 [u, .pointer (some ⟨c, 0, none⟩)] w (fun r w2 => ∃ v', r = .tuple #[] ∧ Blk w2 c 43 [v'] ∧ OwnO tByte (fun _ => False) 5 w2 v' (acc ++ l.flatMap numB) (fun k => B k ∨ w.heap.size ≤ k) ∧ Ext (fun k => k = c ∨ B k) w w2) := by
  have hcl := hc.lt
  obtain ⟨a, cap, rfl, hcap⟩ := Sl.val hl
  refine Fn.enter (fun w => Tryz.call77 _ w) Tryz.func77 rfl ?_
  refine .seq (.region ?_)
  refine .p rfl rfl (.mv rfl) ?_
  refine .p rfl rfl (.len rfl rfl) ?_
  refine .p rfl rfl (.mv rfl) ?_
  refine .nil (.code (.block (.keep [(7, _), (6, _), (5, _), (1, _)] ⟨rfl, rfl, rfl, rfl, trivial⟩ ?_)))
  refine .loop (S := Nat × Bs × Value × World) (fun s => [(1, .pointer (some ⟨c, 0, none⟩)), (5, .slice a l.length cap), (6, i64 l.length), (7, i64 s.1)]) (fun s => s.2.2.2) (fun s => s.1 ≤ l.length ∧ s.2.1 = acc ++ (l.take s.1).flatMap numB ∧ s.2.1.length ≤ 140000000000 + 10 * s.1 ∧ Blk s.2.2.2 c 43 [s.2.2.1] ∧ OwnO tByte (fun _ => False) 5 s.2.2.2 s.2.2.1 s.2.1 (fun k => B k ∨ w.heap.size ≤ k) ∧ Ext (fun k => k = c ∨ B k) w s.2.2.2) (fun s => l.length - s.1) (0, acc, v, w) ⟨rfl, rfl, rfl, rfl, trivial⟩ rfl ⟨Nat.zero_le _, (List.append_nil _).symm, (by show acc.length ≤ 140000000000 + 10 * 0; omega), hc, OwnO.mono hG (fun _ h _ => h) (fun _ h _ => .inl h), .refl _⟩ ?_
  rintro ⟨i, ai, vi, wi⟩ J ⟨hi', ha, hal, hC, hGi, hX⟩ again
  simp only at hi' ha hal hC hGi hX
  have zi : w.heap.size ≤ wi.heap.size := hX.size
  have hn : ¬ (B c ∨ w.heap.size ≤ c) := fun h => h.elim hB (by omega)
  change G _ [(1, .pointer (some ⟨c, 0, none⟩)), (5, .slice a l.length cap), (6, i64 l.length), (7, i64 i)] _ _ wi
  refine .seq (.region ?_)
  refine .p rfl rfl (.lt rfl rfl) ?_
  refine .nil (.code (.seq ?_))
  refine .condD rfl (fun c8 => ?_) (fun c8 => ?_)
  · have hi : i < l.length := by omega
    obtain ⟨b0, o0, e, _, hce, hb0⟩ := Sl.intAt (Ty.ext (Sl tInt) hl hX (fun k h _ => h)) hi
    cases e
    have h0 := hp _ (List.getElem_mem hi)
    refine .skip (.code (.seq (.block (.seq (.keep [(1, _), (5, _), (6, _), (7, _)] ⟨rfl, rfl, rfl, rfl, trivial⟩ (.region ?_))))))
    refine .p rfl rfl (.indexAddr1 rfl rfl rfl rfl (by omega)) ?_
    refine .p rfl rfl (.load rfl rfl rfl hce) ?_
    refine .p rfl rfl (.as rfl) ?_
    refine .nil (.code (.keep [(4, _), (1, _), (5, _), (6, _), (7, _)] ⟨rfl, rfl, rfl, rfl, rfl, trivial⟩ (.mix ((fun k => B k ∨ w.heap.size ≤ k)) [3, 4, 5] (by kernel_rfl) (by kernel_rfl) (by kernel_rfl) ?_)))
    refine .p rfl rfl rfl (fun wx hx => .load rfl rfl rfl ((hC.ext hx hn).cell 0)) ?_
    refine .p rfl rfl rfl (fun wx hx => .mv rfl) ?_
    refine .p rfl rfl rfl (fun wx hx => .cast (.convU rfl rfl rfl (by omega)) (show _ = Value.int .u64 ((l[i].toNat : Nat) : Int) by rw [Int.toNat_of_nonneg h0])) ?_
    refine .call (first := []) (captured := []) rfl rfl rfl rfl rfl (Small_fn (n := l[i].toNat) (by omega)) (by rintro _ _ ⟨_, hx⟩; exact hx.mono (fun _ _ h => h.elim)) ?_
    rintro r14 w14 ⟨G14, X14⟩
    have z14 : wi.heap.size ≤ w14.heap.size := X14.size
    have hsl := smallF_length l[i].toNat
    refine .v rfl rfl rfl (.appendLo (t := tByte) (eb := 1) rfl (OwnO.ext0 hGi X14) (fun k hk => .inr (by omega)) rfl (Gr.holds (Gr.rep G14)) rfl rfl rfl rfl rfl rfl rfl (by simp; omega) (by simp [Lim]; omega) (fun _ h _ => h.elim)) (by rintro _ _ ⟨_, hx⟩; exact (X14.mono (fun _ _ h => h.elim)).trans hx) ?_
    rintro r15 w15 ⟨G15, Y15⟩
    have z15 : w14.heap.size ≤ w15.heap.size := Y15.size
    have C15 := ((hC.ext X14 (fun h => h)).ext Y15 hn)
    obtain ⟨a15, cap15, rfl, hc15⟩ := OwnO.val G15
    refine .sL rfl rfl (.store rfl rfl rfl rfl rfl C15 (by simp)) (by kernel_rfl) ?_
    intro w16 P16
    have C16 : Blk w16 c 43 [.slice a15 (ai ++ smallF l[i].toNat).length cap15] := P16.blk
    refine .nil (.blk (.code (.keep [(1, _), (5, _), (6, _), (7, _)] ⟨rfl, rfl, rfl, rfl, trivial⟩ (.region ?_))))
    refine .p rfl rfl (.add rfl rfl (by omega)) ?_
    refine .p rfl rfl (.mv rfl) ?_
    refine .nil ?_
    exact (again (i + 1, ai ++ smallF l[i].toNat, .slice a15 (ai ++ smallF l[i].toNat).length cap15, w16) ⟨by show i + 1 ≤ l.length; omega, by show ai ++ smallF l[i].toNat = _; rw [ints_step hi, ha, List.append_assoc]; rfl, by have := smallF_length l[i].toNat; show (ai ++ smallF l[i].toNat).length ≤ 140000000000 + 10 * (i + 1); rw [List.length_append]; omega, C16, (OwnO.mono (OwnO.ext G15 P16.ext (fun k hk _ (he : k = c) => hn (he ▸ hk)) (fun _ h _ => h.elim)) (fun _ h _ => h) (fun _ h _ => h)), (((hX.trans (X14.mono (fun _ _ h => h.elim))).and Y15 (fun k h hk => h.elim .inr (fun h => by omega))).and P16.ext (fun k h _ => .inl h))⟩ (by show l.length - (i + 1) < l.length - i; omega)).of ⟨rfl, rfl, rfl, rfl, trivial⟩
  · obtain rfl : i = l.length := by omega
    refine .exit rfl ?_
    refine .fin [] rfl ?_
    rw [List.take_length] at ha
    subst ha
    exact ⟨vi, rfl, hC, hGi, hX⟩
end Go.Proofs.YthliepcjfnjnoaaGreatDoor
namespace Go.Proofs.YthliepcjfnjnoaaGreatDoor
open Go
theorem Sl.cutM {α : Type} {t : Ty α} {P : Nat → Prop} {w : World} {xs : List α} {a : Option Addr} {n cap : Nat} (h : (Sl t).rep P w (.slice a n cap) xs) (l k : Nat) (h1 : l ≤ k) (h2 : k ≤ n) : (Sl t).rep P w (cutV t.size a k l k) ((xs.take k).drop l) := by
  obtain ⟨hl, a', cap', hv, hc, h⟩ := h
  cases hv
  have hlen : ((xs.take k).drop l).length = k - l := by simp; omega
  refine ⟨by rw [hlen]; simp only [Lim] at *; omega, (if k = l then a else a.map (·.add (l * t.size))), k - l, by simp [cutV, hlen], by rw [hlen]; omega, ?_⟩
  rcases h with ⟨rfl, rfl⟩ | ⟨b, o, us, rfl, hb, hlt, he, hcs⟩
  · left
    have hk : k = 0 := by simp at h2; exact h2
    subst hk
    simp
  · right
    by_cases hcl : k = l
    · subst hcl
      refine ⟨b, o, [], by simp, hb, hlt, ?_, Cells.nil _ _ _⟩
      have : (xs.take k).drop k = [] := List.eq_nil_of_length_eq_zero (by rw [hlen]; omega)
      rw [this]
      exact .nil
    · refine ⟨b, o + l * t.size, (us.take k).drop l, by simp [hcl, add_none], hb, hlt, (he.take k).drop l, ?_⟩
      have hsz := he.mem (n := t.size) (fun u x h => t.sz h)
      rw [flat_drop l (fun u hu => hsz u (List.mem_of_mem_take hu)), flat_take k hsz]
      exact (hcs.take _).drop _
theorem slicesEqual_fn {w : World} {v u : Value} {l m : Bs} (hl : tBytes.rep All w v l) (hm : tBytes.rep All w u m) : Fn Tryz.prog 248 [v, u] w (fun r w2 => r = .bool (decide (l = m)) ∧ Ext (fun _ => False) w w2) := by
  obtain ⟨a, cap, rfl, hcap⟩ := Sl.val hl
  obtain ⟨a2, cap2, rfl, hcap2⟩ := Sl.val hm
  have hlim := Sl.lim hl
  simp only [Lim] at hlim
  refine Fn.enter (fun w => Tryz.call248 _ w) Tryz.func248 rfl ?_
  refine .seq (.region ?_)
  refine .p rfl rfl (.as rfl) ?_
  refine .nil (.code (.seq (.seq (.keep [(0, _), (1, _)] ⟨rfl, rfl, trivial⟩ (.region ?_)))))
  refine .p rfl rfl (.mv rfl) ?_
  refine .p rfl rfl (.len rfl rfl) ?_
  refine .p rfl rfl (.mv rfl) ?_
  refine .p rfl rfl (.len rfl rfl) ?_
  refine .p rfl rfl (.ne rfl rfl) ?_
  refine .nil (.code (.keep [(10, _), (0, _), (1, _)] ⟨rfl, rfl, rfl, trivial⟩ ?_))
  refine .condD rfl (fun c10 => ?_) (fun c10 => ?_)
  · refine .seq (.keep [] trivial (.region ?_))
    refine .p rfl rfl (.as rfl) ?_
    refine .nil (.code ?_)
    refine .ret _ rfl ?_
    refine ⟨?_, .refl w⟩
    rw [decide_eq_false (fun h => by subst h; exact c10 rfl)]
    rfl
  · have hle : l.length = m.length := by omega
    refine .skip (.code (.seq (.seq (.keep [(0, _), (1, _)] ⟨rfl, rfl, trivial⟩ (.region ?_)))))
    refine .p rfl rfl (.mv rfl) ?_
    refine .p rfl rfl (.len rfl rfl) ?_
    refine .p rfl rfl (.mv rfl) ?_
    refine .nil (.code (.block (.keep [(13, _), (12, _), (0, _), (1, _)] ⟨rfl, rfl, rfl, rfl, trivial⟩ ?_)))
    refine .loop (S := Nat) (fun s => [(0, .slice a l.length cap), (1, .slice a2 m.length cap2), (12, i64 l.length), (13, i64 s)]) (fun s => w) (fun s => s ≤ l.length ∧ ∀ j (h : j < l.length) (h2 : j < m.length), j < s → l[j] = m[j]) (fun s => l.length - s) 0 ⟨rfl, rfl, rfl, rfl, trivial⟩ rfl ⟨Nat.zero_le _, fun j _ _ h => absurd h (Nat.not_lt_zero _)⟩ ?_
    rintro i J ⟨hi', hs⟩ again
    refine .seq (.region ?_)
    refine .p rfl rfl (.lt rfl rfl) ?_
    refine .nil (.code (.seq ?_))
    refine .condD rfl (fun c14 => ?_) (fun c14 => ?_)
    · have hi : i < l.length := by omega
      obtain ⟨b1, o1, e1, _, hc1⟩ := Sl.byteAt hl hi
      obtain ⟨b2, o2, e2, _, hc2⟩ := Sl.byteAt hm (k := i) (by omega)
      subst e1
      subst e2
      refine .skip (.code (.seq (.block (.seq (.keep [(0, _), (1, _), (12, _), (13, _)] ⟨rfl, rfl, rfl, rfl, trivial⟩ (.region ?_))))))
      refine .p rfl rfl (.mv rfl) ?_
      refine .p rfl rfl (.as rfl) ?_
      refine .nil (.code (.seq (.keep [(5, _), (0, _), (1, _), (12, _), (13, _)] ⟨rfl, rfl, rfl, rfl, rfl, trivial⟩ (.draws (by kernel_rfl) (by kernel_rfl) ?_))))
      refine .p rfl rfl (.mv rfl) ?_
      refine .p rfl rfl (.mv rfl) ?_
      refine .p rfl rfl (.indexAddr1 rfl rfl rfl rfl (by omega)) ?_
      refine .p rfl rfl (.load rfl rfl rfl hc1) ?_
      refine .p rfl rfl (.mv rfl) ?_
      refine .p rfl rfl (.mv rfl) ?_
      refine .p rfl rfl (.indexAddr1 rfl rfl rfl rfl (by omega)) ?_
      refine .p rfl rfl (.load rfl rfl rfl hc2) ?_
      refine .p rfl rfl (.ne rfl rfl) ?_
      refine .nil (.code (.keep [(24, _), (0, _), (1, _), (12, _), (13, _)] ⟨rfl, rfl, rfl, rfl, rfl, trivial⟩ ?_))
      refine .condD rfl (fun c24 => ?_) (fun c24 => ?_)
      · refine .seq (.keep [] trivial (.region ?_))
        refine .p rfl rfl (.as rfl) ?_
        refine .nil (.code ?_)
        refine .ret _ rfl ?_
        refine ⟨?_, .refl w⟩
        rw [decide_eq_false (fun h => by subst h; exact c24 rfl)]
        rfl
      · refine .skip (.blk (.code (.keep [(0, _), (1, _), (12, _), (13, _)] ⟨rfl, rfl, rfl, rfl, trivial⟩ (.region ?_))))
        refine .p rfl rfl (.add rfl rfl (by omega)) ?_
        refine .p rfl rfl (.mv rfl) ?_
        refine .nil ?_
        refine (again (i + 1) ⟨by omega, fun j hj hj2 h1 => ?_⟩ (by omega)).of ⟨rfl, rfl, rfl, rfl, trivial⟩
        rcases Nat.lt_or_ge j i with h2 | h2
        · exact hs j hj hj2 h2
        · obtain rfl : j = i := by omega
          have h : ((l[j].toNat : Nat) : Int) = ((m[j].toNat : Nat) : Int) := Decidable.not_not.1 c24
          exact UInt8.toNat_inj.1 (by omega)
    · obtain rfl : i = l.length := by omega
      refine .exit rfl (.code (.seq (.keep [] trivial (.region ?_))))
      refine .p rfl rfl (.as rfl) ?_
      refine .nil (.code ?_)
      refine .ret _ rfl ?_
      refine ⟨?_, .refl w⟩
      rw [decide_eq_true (List.ext_getElem hle (fun j h1 h2 => hs j h1 h2 h1))]
      rfl
theorem Chunk_fn {w : World} {v : Value} (hv : v.cells = #[v]) (h1 : v.oneCell' = true) : Fn Tryz.prog 246 [v, i64 128] w (fun r w2 => r = .func (.func 271) #[] #[.pointer (some ⟨w.heap.size, 0, none⟩), .pointer (some ⟨w.heap.size + 1, 0, none⟩)] ∧ Blk w2 w.heap.size 43 [v] ∧ Blk w2 (w.heap.size + 1) 3 [i64 128] ∧ w2.heap.size = w.heap.size + 2 ∧ Ext (fun _ => False) w w2) := by
  refine Fn.enter (fun w => Tryz.call246 _ w) Tryz.func246 rfl ?_
  refine .seq (.region ?_)
  refine .v rfl rfl (.box rfl) ?_
  rintro _ w2 ⟨rfl, N2⟩
  refine .v rfl rfl (.box rfl) ?_
  rintro _ w3 ⟨rfl, N3⟩
  have z2 := N2.size
  have B3 : Blk w3 w2.heap.size 3 [i64 128] := N3.blk
  have z3 := N3.size
  have B2 : Blk w2 w.heap.size 43 [v] := by have h := N2.blk; rw [hv] at h; exact h
  refine .p rfl rfl (.as rfl) ?_
  refine .nil (.code (.seq (.seq (.keep [(3, _), (2, _)] ⟨rfl, rfl, trivial⟩ (.region ?_)))))
  refine .p rfl rfl (.load rfl rfl rfl (B3.cell 0)) ?_
  refine .p rfl rfl (.no (.lt rfl rfl) (by decide)) ?_
  refine .nil (.code (.keep [(6, _), (3, _), (2, _)] ⟨rfl, rfl, rfl, trivial⟩ (.condF rfl (.skip (.code (.seq (.keep [(3, _), (2, _)] ⟨rfl, rfl, trivial⟩ (.region ?_))))))))
  refine .p rfl rfl (.makeFunc rfl rfl) ?_
  refine .p rfl rfl (.as rfl) ?_
  refine .nil (.code ?_)
  refine .ret _ rfl ?_
  refine ⟨by rw [z2]; rfl, B2.ext N3.ext (fun x => x), by rw [← z2]; exact B3, by omega, N2.ext.trans N3.ext⟩
theorem Chunk1_fn {w : World} {cb cn D : Nat} {fn : FuncId} {tmps : Array Value} {ps : Array Tmp} {assign body : Code} {J : Nat → World → Prop} {a : Option Addr} {cap : Nat} (hcap : 1024 ≤ cap) (hJ : ∀ i W, J i W → Blk W cb 43 [.slice a 1024 cap] ∧ Blk W cn 3 [i64 128]) (hy : ∀ i W, i < 8 → Between fn tmps ps assign body D (J i) W → YieldAt Fence.wide 0 Tryz.prog (D + 1) #[cutV 1 a (i * 128 + 128) (i * 128) (i * 128 + 128)] W (fun en w3 => en = .returned (.bool true) ∧ Between fn tmps ps assign body D (J (i + 1)) w3)) (h0 : Between fn tmps ps assign body D (J 0) w) : Fn Tryz.prog 271 [.func (.yield (D + 1)) #[] #[], .pointer (some ⟨cb, 0, none⟩), .pointer (some ⟨cn, 0, none⟩)] w (fun r w2 => Between fn tmps ps assign body D (J 8) w2) := by
  refine Fn.enter (fun w => Tryz.call271 _ w) Tryz.func271 rfl ?_
  refine .seq (.region ?_)
  refine .p rfl rfl (.as rfl) ?_
  refine .nil (.code (.block ?_))
  refine .loop (S := Nat × World) (fun s => [(0, .func (.yield (D + 1)) #[] #[]), (1, .pointer (some ⟨cb, 0, none⟩)), (2, .pointer (some ⟨cn, 0, none⟩)), (4, i64 ((s.1 * 128 : Nat) : Int))]) (fun s => s.2) (fun s => s.1 ≤ 8 ∧ Between fn tmps ps assign body D (J s.1) s.2) (fun s => 8 - s.1) (0, w) ⟨rfl, rfl, rfl, rfl, trivial⟩ rfl ⟨Nat.zero_le _, h0⟩ ?_
  rintro ⟨i, wi⟩ J' ⟨hi', hbt⟩ again
  simp only at hi' hbt
  have B : Blk wi cb 43 [.slice a 1024 cap] := hbt.blk (fun W h => (hJ _ W h).1)
  have Bn : Blk wi cn 3 [i64 128] := hbt.blk (fun W h => (hJ _ W h).2)
  change G _ [(0, .func (.yield (D + 1)) #[] #[]), (1, .pointer (some ⟨cb, 0, none⟩)), (2, .pointer (some ⟨cn, 0, none⟩)), (4, i64 ((i * 128 : Nat) : Int))] _ _ wi
  refine .seq (.seq (.region ?_))
  refine .p rfl rfl (.mv rfl) ?_
  refine .p rfl rfl (.load rfl rfl rfl (B.cell 0)) ?_
  refine .p rfl rfl (.len rfl rfl) ?_
  refine .p rfl rfl (.lt rfl rfl) ?_
  refine .nil (.code (.keep [(9, _), (0, _), (1, _), (2, _), (4, _)] ⟨rfl, rfl, rfl, rfl, rfl, trivial⟩ ?_))
  refine .condD rfl (fun c9 => ?_) (fun c9 => ?_)
  · have hi : i < 8 := by omega
    refine .skip (.code (.seq (.block (.seq (.keep [(0, _), (1, _), (2, _), (4, _)] ⟨rfl, rfl, rfl, rfl, trivial⟩ (.draws (by kernel_rfl) (by kernel_rfl) ?_))))))
    refine .p rfl rfl (.load rfl rfl rfl (Bn.cell 0)) ?_
    refine .p rfl rfl (.load rfl rfl rfl (B.cell 0)) ?_
    refine .p rfl rfl (.mv rfl) ?_
    refine .p rfl rfl (.cutLo (s := 1) rfl rfl rfl rfl (by omega)) ?_
    refine .p rfl rfl (.len rfl rfl) ?_
    refine .p rfl rfl (.cast (.min2 rfl rfl) (show _ = i64 128 by congr 1; omega)) ?_
    refine .p rfl rfl (.as rfl) ?_
    refine .nil (.code (.seq (.keep [(5, _), (0, _), (1, _), (2, _), (4, _)] ⟨rfl, rfl, rfl, rfl, rfl, trivial⟩ (.regionI ?_))))
    refine .p rfl rfl (.mv rfl) ?_
    refine .p rfl rfl (.load rfl rfl rfl (B.cell 0)) ?_
    refine .p rfl rfl (.mv rfl) ?_
    refine .p rfl rfl (.mv rfl) ?_
    refine .p rfl rfl (.mv rfl) ?_
    refine .p rfl rfl (.add rfl rfl (by omega)) ?_
    refine .p rfl rfl (.mv rfl) ?_
    refine .p rfl rfl (.mv rfl) ?_
    refine .p rfl rfl (.add rfl rfl (by omega)) ?_
    refine .p rfl rfl (.cast (.cut3 (s := 1) rfl rfl rfl rfl rfl rfl (by omega)) (show cutV 1 a (((i * 128 : Nat) : Int) + 128).toNat ((i * 128 : Nat) : Int).toNat (((i * 128 : Nat) : Int) + 128).toNat = cutV 1 a (i * 128 + 128) (i * 128) (i * 128 + 128) by rw [show (((i * 128 : Nat) : Int) + 128).toNat = i * 128 + 128 by omega, Int.toNat_natCast])) ?_
    refine .yield (Post := fun b w2 => b = true ∧ Between fn tmps ps assign body D (J (i + 1)) w2) rfl rfl rfl rfl (fun w' hs => ?y) ?_
    case y =>
      obtain ⟨fn', tm', as', bo', h1, h2⟩ := hy i w' hi (hbt.same hs)
      exact ⟨fn', tm', as', bo', h1, h2.mono (fun en w3 h => ⟨true, w3, .refl _, h.1, rfl, h.2⟩)⟩
    rintro _ w29 ⟨rfl, hb29⟩
    have Bn29 : Blk w29 cn 3 [i64 128] := hb29.blk (fun W h => (hJ _ W h).2)
    refine .p rfl rfl (.not rfl) ?_
    refine .nil (.code (.keep [(30, _), (0, _), (1, _), (2, _), (4, _)] ⟨rfl, rfl, rfl, rfl, rfl, trivial⟩ (.condF rfl (.skip (.blk (.code (.keep [(0, _), (1, _), (2, _), (4, _)] ⟨rfl, rfl, rfl, rfl, trivial⟩ (.region ?_))))))))
    refine .p rfl rfl (.mv rfl) ?_
    refine .p rfl rfl (.load rfl rfl rfl (Bn29.cell 0)) ?_
    refine .p rfl rfl (.add rfl rfl (by omega)) ?_
    refine .p rfl rfl (.as rfl) ?_
    refine .nil ?_
    refine (again (i + 1, w29) ⟨by show i + 1 ≤ 8; omega, hb29⟩ (by show 8 - (i + 1) < 8 - i; omega)).of ⟨rfl, rfl, rfl, ?_, trivial⟩
    show _ = some (i64 (((i + 1) * 128 : Nat) : Int))
    rw [show (((i + 1) * 128 : Nat) : Int) = ((i * 128 : Nat) : Int) + 128 by omega]
    rfl
  · obtain rfl : i = 8 := by omega
    refine .exit rfl ?_
    refine .fin [] rfl ?_
    exact hbt
end Go.Proofs.YthliepcjfnjnoaaGreatDoor
namespace Go.Proofs.YthliepcjfnjnoaaGreatDoor
open Go Go.Sort
namespace room
instance : Inhabited Piece := ⟨⟨0, 0⟩⟩
def encP (p : Piece) : List Value := [i64 p.fr, i64 p.ct]
def flatP (xs : List Piece) : List Value := xs.flatMap encP
theorem flatP_length (xs : List Piece) : (flatP xs).length = xs.length * 2 := by
  induction xs with
  | nil => rfl
  | cons p xs ih => simp only [flatP, List.flatMap_cons, List.length_append, List.length_cons] at *; rw [ih]; simp [encP]; omega
theorem flatP_get (xs : List Piece) : ∀ (j : Nat), j < xs.length * 2 → (flatP xs)[j]? = some ((encP (xs.toArray[j / 2]!))[j % 2]!) := by
  induction xs with
  | nil => intro j hj; simp at hj
  | cons p xs ih =>
    intro j hj
    rcases Nat.lt_or_ge j 2 with h | h
    · match j, h with
      | 0, _ => rfl
      | 1, _ => rfl
    · obtain ⟨k, rfl⟩ : ∃ k, j = k + 2 := ⟨j - 2, by omega⟩
      have e1 : (flatP (p :: xs))[k + 2]? = (flatP xs)[k]? := by simp [flatP, encP]
      have e2 : (k + 2) / 2 = k / 2 + 1 := by omega
      have e3 : (k + 2) % 2 = k % 2 := by omega
      rw [e1, e2, e3, ih k (by simp at hj; omega)]
      congr 2
      simp
theorem flatK_get (xs : List Piece) (j : Nat) (hj : j < xs.length * 2) : (flatK encP 2 xs.toArray)[j]! = (encP (xs.toArray[j / 2]!))[j % 2]! := by
  unfold flatK
  have hs : j < xs.toArray.size * 2 := by simpa using hj
  simp [hs, hj]
theorem flatK_size (xs : List Piece) : (flatK encP 2 xs.toArray).size = xs.length * 2 := by simp [flatK]
theorem holdsK_of {w : World} {b : Nat} {E : TypeId} {xs : List Piece} {sp : List Value} (hB : Blk w b E (flatP xs ++ sp)) : HoldsK encP 2 w b 0 xs.toArray := by
  intro j hj
  rw [flatK_size] at hj
  have hl := flatP_length xs
  refine ⟨?_, ?_⟩
  · rw [Nat.zero_add, hB.cell, List.getElem?_append_left (by omega), flatP_get xs j hj, flatK_get xs j hj]
    rfl
  · rw [Nat.zero_add]
    exact hB.thawed j (by rw [List.length_append]; omega)
theorem putCells_list (xs ys : List Piece) (sp : List Value) (hl : ys.length = xs.length) : Sort.putCells id 0 (flatK encP 2 ys.toArray) (flatP xs ++ sp).toArray = (flatP ys ++ sp).toArray := by
  have h1 := flatP_length xs
  have h2 := flatP_length ys
  apply Array.ext_getElem?
  intro k
  unfold Sort.putCells
  rw [Array.getElem?_mapIdx]
  simp only [List.getElem?_toArray]
  rcases Nat.lt_or_ge k (ys.length * 2) with h | h
  · rw [List.getElem?_append_left (by omega), List.getElem?_append_left (by omega), flatP_get ys k h, List.getElem?_eq_getElem (by omega)]
    simp only [Option.map_some]
    rw [if_pos ⟨Nat.zero_le _, by rw [flatK_size]; omega⟩]
    simp only [id, Nat.sub_zero]
    rw [flatK_get ys k h]
  · rw [List.getElem?_append_right (by omega), List.getElem?_append_right (by omega), h1, h2, hl]
    cases hsp : sp[k - xs.length * 2]? with
    | none => rfl
    | some x =>
      simp only [Option.map_some]
      rw [if_neg (by rw [flatK_size]; omega)]
theorem sorted_world {w w' : World} {b n : Nat} {E : TypeId} {xs ys : List Piece} {sp : List Value} {os : Array Obj} (hs : Same w w') (hB : Blk w b E (flatP xs ++ sp)) (hl : ys.length = xs.length) :
    Blk (sortWorldK encP 2 w' b 0 n ys.toArray os) b E (flatP ys ++ sp) ∧ Ext (· = b) w (sortWorldK encP 2 w' b 0 n ys.toArray os) := by
  have hlt := hB.lt
  have hB' : Blk w' b E (flatP xs ++ sp) := hB.keep (by rw [hs.heap])
  obtain ⟨fr, hh, hfz⟩ := hB'.heap
  have hlen : (flatP ys ++ sp).length = (flatP xs ++ sp).length := by rw [List.length_append, List.length_append, flatP_length, flatP_length, hl]
  have hsz : w'.heap.size = w.heap.size := by rw [hs.heap]
  have hheap : ∀ k, k < w.heap.size → (sortWorldK encP 2 w' b 0 n ys.toArray os).heap[k]? = if k = b then some (.cells (flatP ys ++ sp).toArray E fr) else w'.heap[k]? := by
    intro k hk
    show ((w'.heap.modify b _) ++ os)[k]? = _
    rw [Array.getElem?_append_left (by simp; omega), Array.getElem?_modify]
    by_cases hkb : b = k
    · subst hkb
      rw [if_pos rfl, if_pos rfl, hh]
      simp only [Option.map_some, onCells]
      rw [putCells_list xs ys sp hl]
    · rw [if_neg hkb, if_neg (fun h => hkb h.symm)]
  refine ⟨?_, ?_⟩
  · have h0 := hheap b hlt
    rw [if_pos rfl] at h0
    obtain ⟨fr', h1 | h1⟩ := hB'
    · obtain ⟨h1, h2⟩ := h1
      rw [hh] at h1
      injection h1 with h1
      injection h1 with _ _ h1
      subst h1
      exact ⟨fr, .inl ⟨h0, by rw [hlen]; exact h2⟩⟩
    · obtain ⟨h1, h2⟩ := h1
      rw [hh] at h1
      injection h1 with h1
      injection h1 with _ _ h1
      subst h1
      exact ⟨fr, .inr ⟨h0, h2⟩⟩
  · refine ⟨hs.os, hs.tape, hs.output, ?_, fun k hk hn => ?_⟩
    · show w.heap.size ≤ ((w'.heap.modify b _) ++ os).size
      simp; omega
    · rw [hheap k hk, if_neg hn, hs.heap]
theorem flat_P {P : Nat → Prop} {w : World} {us : List Value} {xs : List Piece} (h : Each (tPiece.rep P w) us xs) : flat us = flatP xs := by
  induction h with
  | nil => rfl
  | cons h1 _ ih =>
    obtain ⟨rfl, _⟩ := tPiece.val h1
    rw [flat_cons, ih]
    rfl
theorem each_P {P : Nat → Prop} {w : World} : ∀ {xs : List Piece}, (∀ p ∈ xs, (-9223372036854775808 ≤ p.fr ∧ p.fr ≤ 9223372036854775807) ∧ -9223372036854775808 ≤ p.ct ∧ p.ct ≤ 9223372036854775807) → Each (tPiece.rep P w) (xs.map (fun p => .agg #[i64 p.fr, i64 p.ct])) xs
  | [], _ => .nil
  | p :: xs, h => .cons (tPiece.mk (h p (by simp)).1 (h p (by simp)).2) (each_P (fun q hq => h q (List.mem_cons_of_mem _ hq)))
theorem each_range {P : Nat → Prop} {w : World} {us : List Value} {xs : List Piece} (h : Each (tPiece.rep P w) us xs) : ∀ p ∈ xs, (-9223372036854775808 ≤ p.fr ∧ p.fr ≤ 9223372036854775807) ∧ -9223372036854775808 ≤ p.ct ∧ p.ct ≤ 9223372036854775807 := by
  induction h with
  | nil => intro p hp; cases hp
  | cons h1 _ ih =>
    intro p hp
    rcases List.mem_cons.1 hp with rfl | hp
    · exact (tPiece.val h1).2
    · exact ih p hp
end room
end Go.Proofs.YthliepcjfnjnoaaGreatDoor
namespace Go.Proofs.YthliepcjfnjnoaaGreatDoor
open Go Go.Proofs Go.Shelf Go.RowKit Go.Lib Go.Sort
def sortP_ren : Go.Shelf.Ren := ⟨fun | 6 => 206 | 14 => 244 | 15 => 106 | 20 => 263 | 21 => 264 | 22 => 265 | 23 => 266 | 24 => 267 | 25 => 268 | 26 => 269 | 27 => 270 | 28 => 164 | 29 => 165 | 46 => 277 | 47 => 200 | 48 => 201 | 49 => 278 | 50 => 279 | 57 => 280 | n => n, fun | 0 => 0 | 3 => 3 | 4 => 4 | 5 => 5 | 9 => 9 | 22 => 147 | 24 => 151 | 25 => 325 | 39 => 88 | 45 => 272 | 46 => 273 | 50 => 100 | 53 => 106 | 55 => 58 | 66 => 317 | 70 => 321 | 76 => 355 | 77 => 135 | n => n, fun n => n⟩
theorem sortP : SlLaysF0.n6 Tryz.prog sortP_ren where
  mixed := by kernel_rfl
  f6 := ⟨ "slices.SortFunc[[]docket/api.Piece,docket/api.Piece]", by decide, Tryz.func206.trans (congrArg some (by kernel_rfl))⟩
  f14 := ⟨ "slices.pdqsortCmpFunc[docket/api.Piece]", by decide, Tryz.func244.trans (congrArg some (by kernel_rfl))⟩
  f15 := Tryz.func106.trans (congrArg some (by kernel_rfl))
  f20 := ⟨ "slices.insertionSortCmpFunc[docket/api.Piece]", by decide, Tryz.func263.trans (congrArg some (by kernel_rfl))⟩
  f21 := ⟨ "slices.heapSortCmpFunc[docket/api.Piece]", by decide, Tryz.func264.trans (congrArg some (by kernel_rfl))⟩
  f22 := ⟨ "slices.breakPatternsCmpFunc[docket/api.Piece]", by decide, Tryz.func265.trans (congrArg some (by kernel_rfl))⟩
  f23 := ⟨ "slices.choosePivotCmpFunc[docket/api.Piece]", by decide, Tryz.func266.trans (congrArg some (by kernel_rfl))⟩
  f24 := ⟨ "slices.reverseRangeCmpFunc[docket/api.Piece]", by decide, Tryz.func267.trans (congrArg some (by kernel_rfl))⟩
  f25 := ⟨ "slices.partialInsertionSortCmpFunc[docket/api.Piece]", by decide, Tryz.func268.trans (congrArg some (by kernel_rfl))⟩
  f26 := ⟨ "slices.partitionEqualCmpFunc[docket/api.Piece]", by decide, Tryz.func269.trans (congrArg some (by kernel_rfl))⟩
  f27 := ⟨ "slices.partitionCmpFunc[docket/api.Piece]", by decide, Tryz.func270.trans (congrArg some (by kernel_rfl))⟩
  f28 := Tryz.func164.trans (congrArg some (by kernel_rfl))
  f29 := Tryz.func165.trans (congrArg some (by kernel_rfl))
  f46 := ⟨ "slices.siftDownCmpFunc[docket/api.Piece]", by decide, Tryz.func277.trans (congrArg some (by kernel_rfl))⟩
  f47 := Tryz.func200.trans (congrArg some (by kernel_rfl))
  f48 := Tryz.func201.trans (congrArg some (by kernel_rfl))
  f49 := ⟨ "slices.medianAdjacentCmpFunc[docket/api.Piece]", by decide, Tryz.func278.trans (congrArg some (by kernel_rfl))⟩
  f50 := ⟨ "slices.medianCmpFunc[docket/api.Piece]", by decide, Tryz.func279.trans (congrArg some (by kernel_rfl))⟩
  f57 := ⟨ "slices.order2CmpFunc[docket/api.Piece]", by decide, Tryz.func280.trans (congrArg some (by kernel_rfl))⟩
  t0 := Tryz.underlying0
  a0 := Tryz.isAgg0
  z0 := Tryz.sizeOf0
  v0 := Tryz.zeroValue0
  t3 := Tryz.underlying3
  a3 := Tryz.isAgg3
  z3 := Tryz.sizeOf3
  v3 := Tryz.zeroValue3
  t4 := Tryz.underlying4
  a4 := Tryz.isAgg4
  z4 := Tryz.sizeOf4
  v4 := Tryz.zeroValue4
  t5 := Tryz.underlying5
  a5 := Tryz.isAgg5
  z5 := Tryz.sizeOf5
  v5 := Tryz.zeroValue5
  t9 := Tryz.underlying9
  a9 := Tryz.isAgg9
  z9 := Tryz.sizeOf9
  v9 := Tryz.zeroValue9
  t22 := Tryz.underlying147
  a22 := Tryz.isAgg147
  z22 := Tryz.sizeOf147
  v22 := Tryz.zeroValue147
  t25 := Tryz.underlying325
  a25 := Tryz.isAgg325
  z25 := Tryz.sizeOf325
  v25 := Tryz.zeroValue325
  t39 := Tryz.underlying88
  a39 := Tryz.isAgg88
  z39 := Tryz.sizeOf88
  v39 := Tryz.zeroValue88
  t45 := Tryz.underlying272
  a45 := Tryz.isAgg272
  z45 := Tryz.sizeOf272
  v45 := Tryz.zeroValue272
  t46 := Tryz.underlying273
  a46 := Tryz.isAgg273
  z46 := Tryz.sizeOf273
  v46 := Tryz.zeroValue273
  t50 := Tryz.underlying100
  a50 := Tryz.isAgg100
  z50 := Tryz.sizeOf100
  v50 := Tryz.zeroValue100
  t53 := Tryz.underlying106
  a53 := Tryz.isAgg106
  z53 := Tryz.sizeOf106
  v53 := Tryz.zeroValue106
  t55 := Tryz.underlying58
  a55 := Tryz.isAgg58
  z55 := Tryz.sizeOf58
  v55 := Tryz.zeroValue58
  t66 := Tryz.underlying317
  a66 := Tryz.isAgg317
  z66 := Tryz.sizeOf317
  v66 := Tryz.zeroValue317
  t70 := Tryz.underlying321
  a70 := Tryz.isAgg321
  z70 := Tryz.sizeOf321
  v70 := Tryz.zeroValue321
  t76 := Tryz.underlying355
  a76 := Tryz.isAgg355
  z76 := Tryz.sizeOf355
  v76 := Tryz.zeroValue355
  t77 := Tryz.underlying135
  a77 := Tryz.isAgg135
  z77 := Tryz.sizeOf135
  v77 := Tryz.zeroValue135
def cmpP_ren : Go.Shelf.Ren := ⟨fun | 5 => 109 | 7 => 167 | n => n, fun | 3 => 3 | 4 => 4 | 22 => 3 | n => n, fun n => n⟩
theorem cmpP : SlLaysC2.n5 Tryz.prog cmpP_ren where
  mixed := by kernel_rfl
  f5 := ⟨ "cmp.Compare[int]", by decide, Tryz.func109.trans (congrArg some (by kernel_rfl))⟩
  f7 := ⟨ "cmp.isNaN[int]", by decide, Tryz.func167.trans (congrArg some (by kernel_rfl))⟩
  t3 := Tryz.underlying3
  a3 := Tryz.isAgg3
  z3 := Tryz.sizeOf3
  v3 := Tryz.zeroValue3
  t4 := Tryz.underlying4
  a4 := Tryz.isAgg4
  z4 := Tryz.sizeOf4
  v4 := Tryz.zeroValue4
  t22 := Tryz.underlying3
  a22 := Tryz.isAgg3
  z22 := Tryz.sizeOf3
  v22 := Tryz.zeroValue3
namespace room
theorem ltFr (x y : Piece) : ltOf (fun x y : Piece => Lib.compareInt x.fr y.fr) x y = decide (x.fr < y.fr) := by
  unfold ltOf Lib.compareInt
  by_cases h1 : x.fr < y.fr
  · simp [h1]
  · by_cases h2 : y.fr < x.fr <;> simp [h1, h2]
theorem swoFr : SWO (ltOf fun x y : Piece => Lib.compareInt x.fr y.fr) where
  irrefl x := by rw [ltFr]; simp
  trans x y z h1 h2 := by rw [ltFr] at *; simp at *; omega
  ntrans x y z h1 h2 := by rw [ltFr] at *; simp at *; omega
set_option maxHeartbeats 1000000 in
theorem closureP (x y : Piece) (W : World) : Calls Tryz.prog 207 #[.agg #[.int .i64 x.fr, .int .i64 x.ct], .agg #[.int .i64 y.fr, .int .i64 y.ct]] W fun e w' => e = .returned (.int .i64 (Lib.compareInt x.fr y.fr)) ∧ ∃ q os', w' = grow (W.drewN q) os' := by
  have hcon := fun W' => AnyG.cmp_Compare_int cmpP x.fr y.fr W'
  change ∀ W', Calls Tryz.prog 109 _ _ _ at hcon
  generalize Lib.compareInt x.fr y.fr = r at hcon ⊢
  go_enter Tryz.func207, Tryz.ntmps207
  go_wp2_with (go_at_call 109; refine (hcon _).mono ?_; rintro e w' ⟨rfl, rfl⟩)
  go_ret
  exact ⟨rfl, 0, _, by rw [alloc_eq_grow, alloc_eq_grow, grow_grow]; rfl⟩
theorem cmpLaysP (blk off size : Nat) (w : World) : CmpLays Tryz.prog 207 #[] encP 2 (fun x y : Piece => Lib.compareInt x.fr y.fr) blk off size w :=
  fun _ _ _ _ x y => closureP x y _
end room
open room
theorem SortFunc_fn {w : World} {v : Value} {xs : List Piece} {B : Nat → Prop} (hO : OwnO tPiece (fun _ => False) 151 w v xs B) : Fn Tryz.prog 206 [v, .func (.func 207) #[] #[]] w (fun r w2 => r = .tuple #[] ∧ ∃ ys, ys.Perm xs ∧ ys.Pairwise (fun p q => p.fr ≤ q.fr) ∧ OwnO tPiece (fun _ => False) 151 w2 v ys B ∧ Ext B w w2) := by
  rcases hO with ⟨rfl, rfl⟩ | ⟨b, hb, hlt, hl, ⟨rfl, rfl⟩ | ⟨cap, us, sp, rfl, hc, he, hB, hn⟩⟩
  · refine ⟨fun w' => Tryz.call206 _ w', fun w' hw => ?_⟩
    have h := AnyF.slices_SortFunc_none sortP none 0 (.func (.func 207) #[] #[]) w'
    refine Calls.mono h ?_
    rintro e w2 ⟨rfl, rfl⟩
    exact ⟨_, w, hw, rfl, rfl, [], .nil, .nil, OwnO.nil, .refl _⟩
  · refine ⟨fun w' => Tryz.call206 _ w', fun w' hw => ?_⟩
    have h := AnyF.slices_SortFunc_none sortP none 0 (.func (.func 207) #[] #[]) w'
    refine Calls.mono h ?_
    rintro e w2 ⟨rfl, rfl⟩
    exact ⟨_, w, hw, rfl, rfl, [], .nil, .nil, OwnO.nil, .refl _⟩
  · refine ⟨fun w' => Tryz.call206 _ w', fun w' hw => ?_⟩
    have hfl := flat_P he
    have hrg := each_range he
    rw [hfl] at hB hn
    have hB' : Blk w' b 151 (flatP xs ++ sp) := hB.keep (by rw [hw.heap])
    have eg : ∀ args w, (callFunc 207 args).run Tryz.prog w = .ok (.enter 207 args) w := enters_of Tryz.func207 (by kernel_rfl) rfl
    have hcon := AnyQ.slices_SortFunc sortP 2 Tryz.isAgg151 Tryz.sizeOf151 encP (fun _ => rfl) (fun x v hv => by simp [encP] at hv; rcases hv with rfl | rfl <;> rfl) (fun x y : Piece => Lib.compareInt x.fr y.fr) swoFr 207 #[] b 0 cap xs.toArray w' eg (cmpLaysP b 0 xs.toArray.size w') (holdsK_of hB') hB'.lt (by simp only [Lim] at hl; simp; omega)
    refine Calls.mono hcon ?_
    rintro e w2 ⟨rfl, d', n, os, hp, hs, rfl⟩
    obtain ⟨p1, p2, p3⟩ := hp
    obtain ⟨ys, rfl⟩ : ∃ ys : List Piece, d' = ys.toArray := ⟨d'.toList, by simp⟩
    have hlen : ys.length = xs.length := by simpa using p1
    have hperm : ys.Perm xs := by
      have e1 : (ys.toArray.extract 0 xs.toArray.size).toList = ys := by simp [← hlen]
      have e2 : (xs.toArray.extract 0 xs.toArray.size).toList = xs := by simp
      rw [e1, e2] at p3
      exact p3
    have hsorted : ys.Pairwise (fun p q => p.fr ≤ q.fr) := by
      rw [List.pairwise_iff_getElem]
      intro i j hi hj hij
      have h := hs i j (Nat.zero_le _) hij (by simpa [hlen] using hj)
      rw [ltFr] at h
      have e1 : ys.toArray[i]! = ys[i] := by simp [hi]
      have e2 : ys.toArray[j]! = ys[j] := by simp [hj]
      rw [e1, e2] at h
      have h := of_decide_eq_false h
      omega
    obtain ⟨g1, g2⟩ := sorted_world (n := n) (os := os) hw hB hlen
    have hry : ∀ p ∈ ys, (-9223372036854775808 ≤ p.fr ∧ p.fr ≤ 9223372036854775807) ∧ -9223372036854775808 ≤ p.ct ∧ p.ct ≤ 9223372036854775807 := fun p hp => hrg p (hperm.mem_iff.1 hp)
    have hey := each_P (P := fun _ => False) (w := sortWorldK encP 2 w' b 0 n ys.toArray os) hry
    refine ⟨_, _, .refl _, rfl, rfl, ys, hperm, hsorted, .inr ⟨b, hb, g1.lt, by rw [hlen]; exact hl, .inr ⟨cap, _, sp, by rw [hlen], by rw [hlen]; exact hc, hey, by rw [flat_P hey]; exact g1, ?_⟩⟩, g2.mono (by rintro k _ rfl; exact hb)⟩
    rw [flat_P hey, List.length_append, flatP_length, hlen, ← hn, List.length_append, flatP_length]
end Go.Proofs.YthliepcjfnjnoaaGreatDoor
namespace Go.Proofs.YthliepcjfnjnoaaGreatDoor
open Go
namespace room
def covB (l : List Piece) (k : Nat) : Bool := l.any (fun p => decide (p.fr ≤ (k : Int) ∧ (k : Int) < p.fr + p.ct))
theorem cov_iff {l : List Piece} {k : Nat} : covB l k = true ↔ ∃ p ∈ l, p.fr ≤ (k : Int) ∧ (k : Int) < p.fr + p.ct := by simp [covB]
def pushR (out : List Piece) (k : Int) : List Piece :=
  match out.getLast? with
  | some p => if p.fr + p.ct = k then out.dropLast ++ [⟨p.fr, p.ct + 1⟩] else out ++ [⟨k, 1⟩]
  | none => [⟨k, 1⟩]
def runsTo (f : Nat → Bool) (a : Nat) : Nat → List Piece
  | 0 => []
  | n + 1 => if f (a + n) = true then pushR (runsTo f a n) ((a + n : Nat) : Int) else runsTo f a n
theorem push_nil (k : Int) : pushR [] k = [⟨k, 1⟩] := rfl
theorem push_snoc (out : List Piece) (p : Piece) (k : Int) : pushR (out ++ [p]) k = if p.fr + p.ct = k then out ++ [⟨p.fr, p.ct + 1⟩] else out ++ [p] ++ [⟨k, 1⟩] := by
  unfold pushR
  rw [List.getLast?_append]
  simp
structure Runs (f : Nat → Bool) (a n : Nat) (out : List Piece) : Prop where
  pos : ∀ p ∈ out, 1 ≤ p.ct ∧ (a : Int) ≤ p.fr ∧ p.fr + p.ct ≤ ((a + n : Nat) : Int)
  sep : out.Pairwise (fun p q => p.fr + p.ct < q.fr)
  cov : ∀ k, covB out k = (decide (a ≤ k ∧ k < a + n) && f k)
theorem cov_append (l m : List Piece) (k : Nat) : covB (l ++ m) k = (covB l k || covB m k) := by simp [covB]
theorem cov_one (p : Piece) (k : Nat) : covB [p] k = decide (p.fr ≤ (k : Int) ∧ (k : Int) < p.fr + p.ct) := by simp [covB]
theorem runs_ok (f : Nat → Bool) (a : Nat) : ∀ n, Runs f a n (runsTo f a n)
  | 0 => ⟨fun p hp => (by cases hp), .nil, fun k => (by simp only [runsTo, covB, List.any_nil]; rw [decide_eq_false (by omega), Bool.false_and])⟩
  | n + 1 => by
    have ih := runs_ok f a n
    rw [runsTo]
    by_cases hf : f (a + n) = true
    · rw [if_pos hf]
      rcases List.eq_nil_or_concat (runsTo f a n) with h | ⟨out, p, h⟩
      · rw [h] at ih ⊢
        rw [push_nil]
        refine ⟨fun q hq => ?_, List.pairwise_singleton _ _, fun k => ?_⟩
        · rw [List.mem_singleton] at hq; subst hq; exact ⟨by show (1 : Int) ≤ 1; omega, by show (a : Int) ≤ ((a + n : Nat) : Int); omega, by show ((a + n : Nat) : Int) + 1 ≤ ((a + (n + 1) : Nat) : Int); omega⟩
        · have h0 := ih.cov k
          rw [show covB [] k = false from rfl] at h0
          rw [cov_one]
          show decide (((a + n : Nat) : Int) ≤ (k : Int) ∧ (k : Int) < ((a + n : Nat) : Int) + 1) = _
          by_cases hk : k = a + n
          · subst hk; rw [decide_eq_true (by omega), decide_eq_true (by omega), hf]; rfl
          · by_cases h1 : a ≤ k ∧ k < a + n
            · have h2 : f k = false := by simpa [h1] using h0.symm
              rw [h2, Bool.and_false]; exact decide_eq_false (by omega)
            · rw [decide_eq_false (show ¬ (a ≤ k ∧ k < a + (n + 1)) by omega), Bool.false_and]; exact decide_eq_false (by omega)
      · rw [List.concat_eq_append] at h
        rw [h] at ih ⊢
        rw [push_snoc]
        obtain ⟨hp1, hp2, hp3⟩ := ih.pos p (by simp)
        have hsep := List.pairwise_append.1 ih.sep
        by_cases hpk : p.fr + p.ct = ((a + n : Nat) : Int)
        · rw [if_pos hpk]
          refine ⟨fun q hq => ?_, ?_, fun k => ?_⟩
          · rcases List.mem_append.1 hq with hq | hq
            · have := ih.pos q (by simp [hq]); exact ⟨this.1, this.2.1, by omega⟩
            · rw [List.mem_singleton] at hq; subst hq; exact ⟨by show 1 ≤ p.ct + 1; omega, hp2, by show p.fr + (p.ct + 1) ≤ _; omega⟩
          · refine List.pairwise_append.2 ⟨hsep.1, List.pairwise_singleton _ _, fun x hx y hy => ?_⟩
            rw [List.mem_singleton] at hy; subst hy
            exact hsep.2.2 x hx p (by simp)
          · have h0 := ih.cov k
            rw [cov_append, cov_one] at h0 ⊢
            by_cases hk : k = a + n
            · subst hk
              rw [decide_eq_true (show (⟨p.fr, p.ct + 1⟩ : Piece).fr ≤ ((a + n : Nat) : Int) ∧ ((a + n : Nat) : Int) < (⟨p.fr, p.ct + 1⟩ : Piece).fr + (⟨p.fr, p.ct + 1⟩ : Piece).ct by simp only; omega), Bool.or_true, decide_eq_true (show a ≤ a + n ∧ a + n < a + (n + 1) by omega), hf]; rfl
            · have e1 : decide ((⟨p.fr, p.ct + 1⟩ : Piece).fr ≤ (k : Int) ∧ (k : Int) < (⟨p.fr, p.ct + 1⟩ : Piece).fr + (⟨p.fr, p.ct + 1⟩ : Piece).ct) = decide (p.fr ≤ (k : Int) ∧ (k : Int) < p.fr + p.ct) := decide_eq_decide.2 (by simp only; omega)
              have e2 : decide (a ≤ k ∧ k < a + (n + 1)) = decide (a ≤ k ∧ k < a + n) := decide_eq_decide.2 (by omega)
              rw [e1, e2, h0]
        · rw [if_neg hpk]
          refine ⟨fun q hq => ?_, ?_, fun k => ?_⟩
          · rcases List.mem_append.1 hq with hq | hq
            · have := ih.pos q hq; exact ⟨this.1, this.2.1, by omega⟩
            · rw [List.mem_singleton] at hq; subst hq; exact ⟨by show (1 : Int) ≤ 1; omega, by show (a : Int) ≤ ((a + n : Nat) : Int); omega, by show ((a + n : Nat) : Int) + 1 ≤ ((a + (n + 1) : Nat) : Int); omega⟩
          · refine List.pairwise_append.2 ⟨ih.sep, List.pairwise_singleton _ _, fun x hx y hy => ?_⟩
            rw [List.mem_singleton] at hy; subst hy
            show x.fr + x.ct < ((a + n : Nat) : Int)
            rcases List.mem_append.1 hx with hx | hx
            · have := hsep.2.2 x hx p (by simp); omega
            · rw [List.mem_singleton] at hx; subst hx; omega
          · have h0 := ih.cov k
            rw [cov_append, h0, cov_one]
            show (_ || decide (((a + n : Nat) : Int) ≤ (k : Int) ∧ (k : Int) < ((a + n : Nat) : Int) + 1)) = _
            by_cases hk : k = a + n
            · subst hk
              rw [decide_eq_true (show ((a + n : Nat) : Int) ≤ ((a + n : Nat) : Int) ∧ ((a + n : Nat) : Int) < ((a + n : Nat) : Int) + 1 by omega), Bool.or_true, decide_eq_true (show a ≤ a + n ∧ a + n < a + (n + 1) by omega), hf]; rfl
            · rw [decide_eq_false (show ¬ (((a + n : Nat) : Int) ≤ (k : Int) ∧ (k : Int) < ((a + n : Nat) : Int) + 1) by omega), Bool.or_false]
              congr 1
              exact decide_eq_decide.2 (by omega)
    · rw [if_neg hf]
      refine ⟨fun q hq => ?_, ih.sep, fun k => ?_⟩
      · have := ih.pos q hq; exact ⟨this.1, this.2.1, by omega⟩
      · rw [ih.cov k]
        by_cases hk : k = a + n
        · subst hk
          have : f (a + n) = false := by simpa using hf
          rw [this, Bool.and_false, Bool.and_false]
        · congr 1
          exact decide_eq_decide.2 (by omega)
theorem runs_skip {f : Nat → Bool} {a n : Nat} : ∀ {m : Nat}, (∀ k, n ≤ k → k < n + m → f (a + k) = false) → runsTo f a (n + m) = runsTo f a n
  | 0, _ => rfl
  | m + 1, h => by
    rw [← Nat.add_assoc, runsTo, if_neg (by rw [h (n + m) (by omega) (by omega)]; decide)]
    exact runs_skip (fun k h1 h2 => h k h1 (by omega))
theorem runs_more {f : Nat → Bool} {a n : Nat} (hl : ∀ p ∈ runsTo f a n, p.fr + p.ct < ((a + n : Nat) : Int)) : ∀ {m : Nat}, (∀ k, n ≤ k → k < n + (m + 1) → f (a + k) = true) → runsTo f a (n + (m + 1)) = runsTo f a n ++ [⟨((a + n : Nat) : Int), ((m + 1 : Nat) : Int)⟩]
  | 0, h => by
    rw [Nat.zero_add, runsTo, if_pos (h n (by omega) (by omega))]
    rcases List.eq_nil_or_concat (runsTo f a n) with h0 | ⟨out, p, h0⟩
    · rw [h0]; rfl
    · rw [List.concat_eq_append] at h0
      rw [h0] at hl ⊢
      have := hl p (by simp)
      rw [push_snoc, if_neg (by omega)]
      rfl
  | m + 1, h => by
    rw [show n + (m + 1 + 1) = (n + (m + 1)) + 1 by omega, runsTo, if_pos (h (n + (m + 1)) (by omega) (by omega)), runs_more hl (m := m) (fun k h1 h2 => h k h1 (by omega)), push_snoc, if_pos (by show ((a + n : Nat) : Int) + ((m + 1 : Nat) : Int) = ((a + (n + (m + 1)) : Nat) : Int); omega)]
    rfl
def freeF (first count : Nat) (l : List Piece) : List Piece := runsTo (fun k => !covB l k) first (count - first)
def freeE (first count : Int) (l : List Piece) : Int := if count < 0 ∨ 4096 < count ∨ first < 0 ∨ count < first then 2 else checkR count l
end room
end Go.Proofs.YthliepcjfnjnoaaGreatDoor
