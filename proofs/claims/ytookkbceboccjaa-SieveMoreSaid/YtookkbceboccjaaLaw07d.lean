/-
  SieveMore: its walk.
-/
import Derived.Test.YtookkbceboccjaaLaw07a
import Derived.Test.YtookkbceboccjaaSieveLaw
import Derived.Test.YtookkbceboccjaaApp
set_option linter.unusedVariables false
namespace Go.Proofs.Ytookkbceboccjaa
open Go sieve
theorem SieveMore_fn {w : World} {v u : Value} {keys more : List Bs} {bits : Int} (h : tStrs.rep All w v keys) (hm : tStrs.rep All w u more) : Fn Try.prog 6 [v, u, i64 bits] w (fun r w2 => r = .bool true ∧ Ext (fun _ => False) w w2) := by
  obtain ⟨a, cap, rfl, hcap⟩ := Sl.val h
  have hlim := Sl.lim h
  obtain ⟨am, capm, rfl, hcapm⟩ := Sl.val hm
  have hlimm := Sl.lim hm
  simp only [Lim] at hlim hlimm
  refine Fn.enter (fun w => Try.call6 _ w) Try.func6 rfl ?_
  refine .seq (.region ?_)
  refine .p rfl rfl (.as rfl) ?_
  refine .nil (.code (.seq (.keep [(0, _), (1, _), (2, _)] ⟨rfl, rfl, rfl, trivial⟩ (.region ?_))))
  refine .call (first := []) (captured := []) rfl rfl rfl rfl (alive_fn) ?_
  rintro _ w17 ⟨rfl, X17⟩
  refine .p rfl rfl (.as rfl) ?_
  refine .nil (.code (.seq (.seq (.keep [(7, _), (0, _), (1, _), (2, _)] ⟨rfl, rfl, rfl, rfl, trivial⟩ (.region ?_)))))
  refine .p rfl rfl (.mv rfl) ?_
  refine .p rfl rfl (.not rfl) ?_
  refine .nil (.code (.keep [(19, _), (7, _), (0, _), (1, _), (2, _)] ⟨rfl, rfl, rfl, rfl, rfl, trivial⟩ (.condF rfl (.skip (.code (.seq (.seq (.keep [(7, _), (0, _), (1, _), (2, _)] ⟨rfl, rfl, rfl, rfl, trivial⟩ (.region ?_)))))))))
  refine .p rfl rfl (.mv rfl) ?_
  refine .p rfl rfl (.len rfl rfl) ?_
  refine .p rfl rfl (.gt rfl rfl) ?_
  refine .p rfl rfl (.mv rfl) ?_
  refine .caseD 23 rfl (fun c23 => ?_) (fun c23 => ?_)
  · refine .skip rfl rfl ?_
    refine .skip rfl rfl ?_
    refine .skip rfl rfl ?_
    refine .p rfl rfl (.pickT rfl rfl) ?_
    refine .nil (.code (.keep [(27, _), (7, _), (0, _), (1, _), (2, _)] ⟨rfl, rfl, rfl, rfl, rfl, trivial⟩ (.condT rfl (.seq (.keep [(7, _)] ⟨rfl, trivial⟩ (.region ?_))))))
    refine .p rfl rfl (.mv rfl) ?_
    refine .p rfl rfl (.as rfl) ?_
    refine .nil (.code ?_)
    refine .ret _ rfl ?_
    exact ⟨rfl, X17⟩
  · refine .p rfl rfl (.mv rfl) ?_
    refine .p rfl rfl (.len rfl rfl) ?_
    refine .p rfl rfl (.gt rfl rfl) ?_
    refine .p rfl rfl (.pickF rfl rfl) ?_
    refine .nil (.code (.keep [(27, _), (7, _), (0, _), (1, _), (2, _)] ⟨rfl, rfl, rfl, rfl, rfl, trivial⟩ ?_))
    refine .condD rfl (fun c27 => ?_) (fun c27 => ?_)
    · refine .seq (.keep [(7, _)] ⟨rfl, trivial⟩ (.region ?_))
      refine .p rfl rfl (.mv rfl) ?_
      refine .p rfl rfl (.as rfl) ?_
      refine .nil (.code ?_)
      refine .ret _ rfl ?_
      exact ⟨rfl, X17⟩
    · refine .skip (.code (.seq (.keep [(7, _), (0, _), (1, _), (2, _)] ⟨rfl, rfl, rfl, rfl, trivial⟩ (.region ?_))))
      refine .p rfl rfl (.mv rfl) ?_
      refine .p rfl rfl (.mv rfl) ?_
      refine .call (first := []) (captured := []) rfl rfl rfl rfl (Make_fn (tStrs.ext0 h X17)) ?_
      rintro _ w32 ⟨s, rfl, hs, X32⟩
      refine .p rfl rfl (.mv rfl) ?_
      refine .p rfl rfl (.extract rfl rfl) ?_
      refine .p rfl rfl (.extract rfl rfl) ?_
      refine .p rfl rfl (.as rfl) ?_
      refine .p rfl rfl (.as rfl) ?_
      refine .nil (.code (.seq (.keep [(9, _), (8, _), (7, _), (0, _), (1, _), (2, _)] ⟨rfl, rfl, rfl, rfl, rfl, rfl, trivial⟩ (.region ?_))))
      refine .p rfl rfl (.mv rfl) ?_
      refine .p rfl rfl (.mv rfl) ?_
      refine .call (first := []) (captured := []) rfl rfl rfl rfl (Make_fn (tStrs.ext0 hm (X17.trans X32))) ?_
      rintro _ w38 ⟨t, rfl, ht, X38⟩
      have Z38 := X17.trans (X32.trans X38)
      have Y38 := X38
      refine .p rfl rfl (.mv rfl) ?_
      refine .p rfl rfl (.extract rfl rfl) ?_
      refine .p rfl rfl (.extract rfl rfl) ?_
      refine .p rfl rfl (.as rfl) ?_
      refine .p rfl rfl (.as rfl) ?_
      refine .nil (.code (.seq (.keep [(11, _), (10, _), (9, _), (8, _), (7, _), (0, _), (1, _), (2, _)] ⟨rfl, rfl, rfl, rfl, rfl, rfl, rfl, rfl, trivial⟩ (.region ?_))))
      refine .p rfl rfl (.mv rfl) ?_
      refine .v rfl rfl (.append (t := tStr) (eb := 16) (Q := fun _ => False) (b := w38.heap.size) rfl Own.nil rfl (Sl.holds (tStrs.ext0 h Z38) (fun _ _ h => h)) rfl rfl rfl rfl rfl rfl rfl (by simp; omega) (by simp [Lim]; omega) (fun _ h _ => h.elim)) ?_
      rintro v43 w43 ⟨b43, O43, X43, hb43⟩
      have O43 := O43.mono (Q' := fun _ => False) (fun _ h _ => h.1)
      have Z43 := Z38.then X43 (by rintro k rfl _; have := Z38.size; omega)
      have Y43 := (Ext.refl w38).then X43 (by rintro k rfl _; omega)
      refine .p rfl rfl (.mv rfl) ?_
      refine .v rfl rfl (.append (t := tStr) (eb := 16) rfl O43 rfl (Sl.holds (tStrs.ext0 hm Z43) (fun _ _ h => h)) rfl rfl rfl rfl rfl rfl rfl (by simp; omega) (by simp [Lim]; omega) (fun _ h _ => h.elim)) ?_
      rintro v45 w45 ⟨b45, O45, X45, hb45⟩
      have R45 : tStrs.rep All w45 v45 (keys ++ more) := O45.rep trivial (fun _ _ _ => trivial)
      have Z45 := Z43.then X45 (by rintro k rfl _; have := Z38.size; omega)
      have Y45 := Y43.then X45 (by rintro k rfl _; omega)
      refine .p rfl rfl (.mv rfl) ?_
      refine .call (first := []) (captured := []) rfl rfl rfl rfl (Make_fn R45) ?_
      rintro _ w47 ⟨c, rfl, hc, X47⟩
      have Z47 := Z45.trans X47
      have Y47 := Y45.trans X47
      refine .p rfl rfl (.mv rfl) ?_
      refine .p rfl rfl (.extract rfl rfl) ?_
      refine .p rfl rfl (.extract rfl rfl) ?_
      refine .p rfl rfl (.as rfl) ?_
      refine .p rfl rfl (.as rfl) ?_
      refine .nil (.code (.seq (.keep [(13, _), (12, _), (11, _), (10, _), (9, _), (8, _), (7, _), (0, _), (1, _), (2, _)] ⟨rfl, rfl, rfl, rfl, rfl, rfl, rfl, rfl, rfl, rfl, trivial⟩ (.region ?_))))
      refine .p rfl rfl (.mv rfl) ?_
      refine .v rfl rfl (.append (t := tStr) (eb := 16) (Q := fun _ => False) (b := w47.heap.size) rfl Own.nil rfl (Sl.holds (tStrs.ext0 hm Z47) (fun _ _ h => h)) rfl rfl rfl rfl rfl rfl rfl (by simp; omega) (by simp [Lim]; omega) (fun _ h _ => h.elim)) ?_
      rintro v52 w52 ⟨b52, O52, X52, hb52⟩
      have O52 := O52.mono (Q' := fun _ => False) (fun _ h _ => h.1)
      have Z52 := Z47.then X52 (by rintro k rfl _; have := Z47.size; omega)
      have V52 := (Ext.refl w47).then X52 (by rintro k rfl _; omega)
      refine .p rfl rfl (.mv rfl) ?_
      refine .v rfl rfl (.append (t := tStr) (eb := 16) rfl O52 rfl (Sl.holds (tStrs.ext0 h Z52) (fun _ _ h => h)) rfl rfl rfl rfl rfl rfl rfl (by simp; omega) (by simp [Lim]; omega) (fun _ h _ => h.elim)) ?_
      rintro v54 w54 ⟨b54, O54, X54, hb54⟩
      have R54 : tStrs.rep All w54 v54 (more ++ keys) := O54.rep trivial (fun _ _ _ => trivial)
      have Z54 := Z52.then X54 (by rintro k rfl _; have := Z47.size; omega)
      have V54 := V52.then X54 (by rintro k rfl _; omega)
      refine .p rfl rfl (.mv rfl) ?_
      refine .call (first := []) (captured := []) rfl rfl rfl rfl (Make_fn R54) ?_
      rintro _ w56 ⟨d, rfl, hd, X56⟩
      have Z56 := Z54.trans X56
      have V56 := V54.trans X56
      have Y56 := Y47.trans V56
      refine .p rfl rfl (.mv rfl) ?_
      refine .p rfl rfl (.extract rfl rfl) ?_
      refine .p rfl rfl (.extract rfl rfl) ?_
      refine .p rfl rfl (.as rfl) ?_
      refine .p rfl rfl (.as rfl) ?_
      refine .nil (.code (.seq (.seq (.keep [(15, _), (14, _), (13, _), (12, _), (11, _), (10, _), (9, _), (8, _), (7, _)] ⟨rfl, rfl, rfl, rfl, rfl, rfl, rfl, rfl, rfl, trivial⟩ (.region ?_)))))
      refine .p rfl rfl (.mv rfl) ?_
      refine .p rfl rfl (.ne rfl rfl) ?_
      refine .p rfl rfl (.mv rfl) ?_
      refine .caseD 61 rfl (fun c61 => ?_) (fun c61 => ?_)
      · refine .skip rfl rfl ?_
        refine .skip rfl rfl ?_
        refine .p rfl rfl (.pickT rfl rfl) ?_
        refine .nil (.code (.keep [(64, _), (15, _), (14, _), (13, _), (12, _), (10, _), (8, _), (7, _)] ⟨rfl, rfl, rfl, rfl, rfl, rfl, rfl, rfl, trivial⟩ (.condT rfl (.seq (.keep [(15, _), (13, _), (7, _)] ⟨rfl, rfl, rfl, trivial⟩ (.region ?_))))))
        refine .p rfl rfl (.mv rfl) ?_
        refine .p rfl rfl (.mv rfl) ?_
        refine .p rfl rfl (.mv rfl) ?_
        refine .p rfl rfl (.ne rfl rfl) ?_
        refine .p rfl rfl (.mv rfl) ?_
        refine .p rfl rfl (.ne rfl rfl) ?_
        refine .p rfl rfl (.eqB rfl rfl rfl) ?_
        refine .p rfl rfl (.pickT rfl rfl) ?_
        refine .p rfl rfl (.as rfl) ?_
        refine .nil (.code ?_)
        refine .ret _ rfl ?_
        refine ⟨?_, Z56⟩
        show Value.bool _ = _
        congr 1
        have e : (makeF (keys ++ more) bits).2 = 0 ↔ (makeF (more ++ keys) bits).2 = 0 := by
          rw [makeF_code, makeF_code]
          constructor <;> rintro ⟨h1, h2, h3⟩ <;> exact ⟨by rw [List.length_append] at *; omega, fun k hk => h2 k (by simpa [or_comm] using hk), h3⟩
        simp [e]
      · refine .p rfl rfl (.mv rfl) ?_
        refine .p rfl rfl (.ne rfl rfl) ?_
        refine .p rfl rfl (.pickF rfl rfl) ?_
        refine .nil (.code (.keep [(64, _), (15, _), (14, _), (13, _), (12, _), (10, _), (8, _), (7, _)] ⟨rfl, rfl, rfl, rfl, rfl, rfl, rfl, rfl, trivial⟩ ?_))
        refine .condD rfl (fun c64 => ?_) (fun c64 => ?_)
        · refine .seq (.keep [(15, _), (13, _), (7, _)] ⟨rfl, rfl, rfl, trivial⟩ (.region ?_))
          refine .p rfl rfl (.mv rfl) ?_
          refine .p rfl rfl (.mv rfl) ?_
          refine .p rfl rfl (.mv rfl) ?_
          refine .p rfl rfl (.ne rfl rfl) ?_
          refine .p rfl rfl (.mv rfl) ?_
          refine .p rfl rfl (.ne rfl rfl) ?_
          refine .p rfl rfl (.eqB rfl rfl rfl) ?_
          refine .p rfl rfl (.pickT rfl rfl) ?_
          refine .p rfl rfl (.as rfl) ?_
          refine .nil (.code ?_)
          refine .ret _ rfl ?_
          refine ⟨?_, Z56⟩
          show Value.bool _ = _
          congr 1
          have e : (makeF (keys ++ more) bits).2 = 0 ↔ (makeF (more ++ keys) bits).2 = 0 := by
            rw [makeF_code, makeF_code]
            constructor <;> rintro ⟨h1, h2, h3⟩ <;> exact ⟨by rw [List.length_append] at *; omega, fun k hk => h2 k (by simpa [or_comm] using hk), h3⟩
          simp [e]
        · obtain ⟨m, rfl, h1, h2, h3, h4, h5, h6⟩ := makeF_ok (Decidable.byContradiction c61)
          obtain ⟨m', hm', _, _, _, h4', h5', h6'⟩ := makeF_ok (Decidable.byContradiction c64)
          obtain rfl : m = m' := by omega
          have hgc : makeF (keys ++ more) ↑m = (makeL (keys ++ more) m, 0) := by
            obtain ⟨m2, e2, _, _, _, _, _, e3⟩ := makeF_ok (makeF_code.2 ⟨by rw [List.length_append]; omega, fun k hk => (List.mem_append.1 hk).elim (h5 k) (h5' k), by omega, by omega, by omega⟩ : (makeF (keys ++ more) ↑m).2 = 0)
            obtain rfl : m = m2 := by omega
            exact e3
          have hgd : makeF (more ++ keys) ↑m = (makeL (more ++ keys) m, 0) := by
            obtain ⟨m2, e2, _, _, _, _, _, e3⟩ := makeF_ok (makeF_code.2 ⟨by rw [List.length_append]; omega, fun k hk => (List.mem_append.1 hk).elim (h5' k) (h5 k), by omega, by omega, by omega⟩ : (makeF (more ++ keys) ↑m).2 = 0)
            obtain rfl : m = m2 := by omega
            exact e3
          rw [h6] at hs
          rw [h6'] at ht
          rw [hgc] at hc ⊢
          rw [hgd] at hd ⊢
          dsimp only at hs ht hc hd
          obtain ⟨sa, scap, rfl, _⟩ := Sl.val hs
          obtain ⟨ta, tcap, rfl, _⟩ := Sl.val ht
          obtain ⟨ca, ccap, rfl, _⟩ := Sl.val hc
          refine .skip (.code (.seq (.seq (.keep [(15, _), (14, _), (13, _), (12, _), (10, _), (8, _), (7, _)] ⟨rfl, rfl, rfl, rfl, rfl, rfl, rfl, trivial⟩ (.region ?_)))))
          refine .p rfl rfl (.mv rfl) ?_
          refine .p rfl rfl (.no (.ne rfl rfl) (fun h => h rfl)) ?_
          refine .p rfl rfl (.mv rfl) ?_
          refine .p rfl rfl (.mv rfl) ?_
          refine .p rfl rfl (.no (.ne rfl rfl) (fun h => h rfl)) ?_
          refine .p rfl rfl (.pickF rfl rfl) ?_
          refine .p rfl rfl (.mv rfl) ?_
          refine .p rfl rfl (.mv rfl) ?_
          refine .p rfl rfl (.bytesStr rfl (tBytes.ext0 hc V56) rfl rfl rfl) ?_
          refine .p rfl rfl (.mv rfl) ?_
          refine .p rfl rfl (.bytesStr rfl hd rfl rfl rfl) ?_
          refine .p rfl rfl (.no (.neS rfl rfl) (fun h => h (makeL_swap h1 h2 h3 keys more))) ?_
          refine .p rfl rfl (.pickF rfl rfl) ?_
          refine .nil (.code (.keep [(85, _), (12, _), (10, _), (8, _), (7, _)] ⟨rfl, rfl, rfl, rfl, rfl, trivial⟩ (.condF rfl (.skip (.code (.seq (.seq (.keep [(12, _), (10, _), (8, _), (7, _)] ⟨rfl, rfl, rfl, rfl, trivial⟩ (.region ?_)))))))))
          refine .p rfl rfl (.as rfl) ?_
          refine .nil (.code (.block ?_))
          refine .loop (S := Nat) (fun s => [(16, i64 s), (7, .bool true), (12, .slice ca (makeL (keys ++ more) m).length ccap), (8, .slice sa (makeL keys m).length scap), (10, .slice ta (makeL more m).length tcap)]) (fun s => w56) (fun s => s ≤ (makeL (keys ++ more) m).length) (fun s => (makeL (keys ++ more) m).length - s) 0 ⟨rfl, rfl, rfl, rfl, rfl, trivial⟩ rfl (Nat.zero_le _) ?_
          rintro i J hi' again
          refine .seq (.seq (.region ?_))
          refine .p rfl rfl (.mv rfl) ?_
          refine .p rfl rfl (.mv rfl) ?_
          refine .p rfl rfl (.len rfl rfl) ?_
          refine .p rfl rfl (.lt rfl rfl) ?_
          refine .nil (.code (.keep [(89, _), (16, _), (7, _), (12, _), (8, _), (10, _)] ⟨rfl, rfl, rfl, rfl, rfl, rfl, trivial⟩ ?_))
          refine .condD rfl (fun c89 => ?_) (fun c89 => ?_)
          · have hlm := makeL_length (keys ++ more) m
            have hi : i < (makeL (keys ++ more) m).length := by omega
            have hia : i < (makeL keys m).length := by rw [makeL_length] at *; omega
            have hib : i < (makeL more m).length := by rw [makeL_length] at *; omega
            obtain ⟨b1, o1, rfl, _, hcc⟩ := Sl.byteAt hc hi
            obtain ⟨b2, o2, rfl, _, hca⟩ := Sl.byteAt hs hia
            obtain ⟨b3, o3, rfl, _, hcb⟩ := Sl.byteAt ht hib
            refine .skip (.code (.seq (.block (.seq (.keep [(16, _), (7, _), (12, _), (8, _), (10, _)] ⟨rfl, rfl, rfl, rfl, rfl, trivial⟩ (.draws (by kernel_rfl) (by kernel_rfl) ?_))))))
            refine .p rfl rfl (.mv rfl) ?_
            refine .p rfl rfl (.mv rfl) ?_
            refine .p rfl rfl (.indexAddr1 rfl rfl rfl rfl (by omega)) ?_
            refine .p rfl rfl (.load rfl rfl rfl (V56.cell hcc (fun x => x))) ?_
            refine .p rfl rfl (.mv rfl) ?_
            refine .p rfl rfl (.mv rfl) ?_
            refine .p rfl rfl (.indexAddr1 rfl rfl rfl rfl (by omega)) ?_
            refine .p rfl rfl (.load rfl rfl rfl ((X38.trans Y56).cell hca (fun x => x))) ?_
            refine .p rfl rfl (.mv rfl) ?_
            refine .p rfl rfl (.mv rfl) ?_
            refine .p rfl rfl (.indexAddr1 rfl rfl rfl rfl (by omega)) ?_
            refine .p rfl rfl (.load rfl rfl rfl (Y56.cell hcb (fun x => x))) ?_
            refine .p rfl rfl (.or8 rfl rfl) ?_
            refine .p rfl rfl (.no (.ne rfl rfl) (fun hne => hne (by
              have := makeL_both h1 h2 h3 keys more i
              rw [List.getD, List.getD, List.getD, List.getElem?_eq_getElem hi, List.getElem?_eq_getElem hia, List.getElem?_eq_getElem hib] at this
              simp only [Option.getD_some] at this
              rw [this]))) ?_
            refine .nil (.code (.keep [(105, _), (16, _), (7, _), (12, _), (8, _), (10, _)] ⟨rfl, rfl, rfl, rfl, rfl, rfl, trivial⟩ (.condF rfl (.skip (.blk (.code (.keep [(16, _), (7, _), (12, _), (8, _), (10, _)] ⟨rfl, rfl, rfl, rfl, rfl, trivial⟩ (.region ?_))))))))
            refine .p rfl rfl (.mv rfl) ?_
            refine .p rfl rfl (.add rfl rfl (by omega)) ?_
            refine .p rfl rfl (.as rfl) ?_
            refine .nil ?_
            exact (again (i + 1) (by show i + 1 ≤ _; omega) (by show _ - (i + 1) < _ - i; omega)).of ⟨rfl, rfl, rfl, rfl, rfl, trivial⟩
          · refine .exit rfl (.code (.seq (.keep [(7, _)] ⟨rfl, trivial⟩ (.region ?_))))
            refine .p rfl rfl (.mv rfl) ?_
            refine .p rfl rfl (.as rfl) ?_
            refine .nil (.code ?_)
            refine .ret _ rfl ?_
            exact ⟨rfl, Z56⟩
end Go.Proofs.Ytookkbceboccjaa
