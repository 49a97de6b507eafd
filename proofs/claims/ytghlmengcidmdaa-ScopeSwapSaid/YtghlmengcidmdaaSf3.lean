/- Parts of ScopeSw, ScopeSwapW: walks and plain laws that later texts use. Conditions: as each statement says. -/
import Derived.Test.YtghlmengcidmdaaSa0
import Derived.Test.YtghlmengcidmdaaSa1
import Derived.Test.YtghlmengcidmdaaSa10
import Derived.Test.YtghlmengcidmdaaSa11
import Derived.Test.YtghlmengcidmdaaSa12
import Derived.Test.YtghlmengcidmdaaSa13
import Derived.Test.YtghlmengcidmdaaSa14
import Derived.Test.YtghlmengcidmdaaSa15
import Derived.Test.YtghlmengcidmdaaSa16
import Derived.Test.YtghlmengcidmdaaSa17
import Derived.Test.YtghlmengcidmdaaSa18
import Derived.Test.YtghlmengcidmdaaSa19
import Derived.Test.YtghlmengcidmdaaSa2
import Derived.Test.YtghlmengcidmdaaSa20
import Derived.Test.YtghlmengcidmdaaSa21
import Derived.Test.YtghlmengcidmdaaSa22
import Derived.Test.YtghlmengcidmdaaSa23
import Derived.Test.YtghlmengcidmdaaSa24
import Derived.Test.YtghlmengcidmdaaSa25
import Derived.Test.YtghlmengcidmdaaSa26
import Derived.Test.YtghlmengcidmdaaSa27
import Derived.Test.YtghlmengcidmdaaSa28
import Derived.Test.YtghlmengcidmdaaSa29
import Derived.Test.YtghlmengcidmdaaSa3
import Derived.Test.YtghlmengcidmdaaSa30
import Derived.Test.YtghlmengcidmdaaSa31
import Derived.Test.YtghlmengcidmdaaSa32
import Derived.Test.YtghlmengcidmdaaSa33
import Derived.Test.YtghlmengcidmdaaSa34
import Derived.Test.YtghlmengcidmdaaSa35
import Derived.Test.YtghlmengcidmdaaSa36
import Derived.Test.YtghlmengcidmdaaSa37
import Derived.Test.YtghlmengcidmdaaSa38
import Derived.Test.YtghlmengcidmdaaSa4
import Derived.Test.YtghlmengcidmdaaSa40
import Derived.Test.YtghlmengcidmdaaSa5
import Derived.Test.YtghlmengcidmdaaSa6
import Derived.Test.YtghlmengcidmdaaSa7
import Derived.Test.YtghlmengcidmdaaSa8
import Derived.Test.YtghlmengcidmdaaSa9
import Derived.Test.YtghlmengcidmdaaSf0
import Derived.Test.YtghlmengcidmdaaSf1
import Derived.Test.YtghlmengcidmdaaSf2
import Derived.Outline
import Derived.OrdersHeld
import Derived.Deep.RegionHeld3
import Derived.IntWalk
import Derived.Deep.QuietTactic
import Derived.BigQuiet
import Derived.Deep.RegionWith
import Derived.Deep.DeepCutAuto
import Derived.Laws.Cover3
import Derived.Deep.CutBlock
import Derived.Laws.StructEq
import Derived.WalkKit
import Derived.Test.YtghlmengcidmdaaRows
import Derived.WalkSpells
import Derived.Lib.Hide
import Derived.Below
import Derived.WalkSmall
import Derived.RegionTactic
import Derived.Maps.Range
import Derived.Lib.SmallJoins
import Derived.Deep.Upon
import Derived.Maps.AppendAt
import Derived.Laws.OwnMore
import Derived.Deep.RegionLaw
import Derived.Deep.Slices
import Derived.Deep.Fields
import Derived.SliceStrings
import Derived.ChangeSlices
import Derived.OwnWalk
import Derived.OneCell
import Derived.Deep.AppendLies
import Derived.Laws.BitsAllLaws
import Derived.StillTailTactics
import Derived.Deep.MidRow
section
/- Two names changed for each other, main alone not: the same first fault, the same kinds. No program's code. Conditions: the two are names, neither is main. -/
namespace Go.Proofs.Ytghlmengcidmdaa.Tr
open Go.RowKit Go.Proofs.Ytghlmengcidmdaa.Lx Go.Proofs.Ytghlmengcidmdaa.Wd
section
variable (a b : ByteArray)
theorem inB_sw (s : ByteArray) (l : List ByteArray) : inB (other a b s) (l.map (other a b)) = inB s l := by
  unfold inB
  rw [at_map (other_inj a b)]
theorem other_ne {s t : ByteArray} : other a b s = other a b t ↔ s = t := by
  constructor
  · intro h
    have := congrArg (other a b) h
    rwa [other_back, other_back] at this
  · intro h; rw [h]
theorem same_sw (s t : ByteArray) : ((other a b s).toList == (other a b t).toList) = (s.toList == t.toList) := other_inj a b s t
theorem twice_sw (l : List ByteArray) : twiceB (l.map (other a b)) = twiceB l := by
  unfold twiceB
  congr 1
  rw [decide_eq_decide]
  constructor
  · intro h
    unfold List.Nodup at h ⊢
    rw [List.pairwise_map] at h
    exact h.imp fun {x y} hxy he => hxy (by rw [he])
  · intro h
    unfold List.Nodup at h ⊢
    rw [List.pairwise_map]
    exact h.imp fun {x y} hxy he => hxy ((other_ne a b).1 he)
theorem addN_sw (s : ByteArray) (l : List ByteArray) : addN (other a b s) (l.map (other a b)) = (addN s l).map (other a b) := by
  unfold addN
  rw [at_map (other_inj a b)]
  split <;> simp
theorem ownN_sw (x : Ex) (l : List ByteArray) : ownN (mapE (other a b) x) (l.map (other a b)) = (ownN x l).map (other a b) := by
  unfold ownN
  rw [mapE_op, mapE_nm]
  split
  · exact addN_sw a b _ _
  · rfl
theorem fold_sw (m : Nat) (hm : ∀ x l, namesE m (mapE (other a b) x) (l.map (other a b)) = (namesE m x l).map (other a b)) : ∀ (ks : List Ex) (l : List ByteArray), (ks.map (mapE (other a b))).foldl (fun l k => namesE m k l) (l.map (other a b)) = (ks.foldl (fun l k => namesE m k l) l).map (other a b) := by
  intro ks
  induction ks with
  | nil => intro l; rfl
  | cons k r ih =>
    intro l
    rw [List.map_cons, List.foldl_cons, List.foldl_cons, hm, ih]
theorem namesE_sw : ∀ (m : Nat) (x : Ex) (l : List ByteArray), namesE m (mapE (other a b) x) (l.map (other a b)) = (namesE m x l).map (other a b) := by
  intro m
  induction m with
  | zero => intro x l; simp [namesE]
  | succ m ih =>
    intro x l
    rw [namesE_succ, namesE_succ, ownN_sw, mapE_ks]
    exact fold_sw a b m ih _ _
end
section
variable {a b : ByteArray} (ha : isName (bl a) = true) (hb : isName (bl b) = true)
include ha hb
theorem namesOf_sw (x : Ex) : namesOf (mapE (other a b) x) = (namesOf x).map (other a b) := by
  unfold namesOf
  rw [sw_may ha hb]
  split
  · exact namesE_sw a b 20 x []
  · rfl
theorem saidA_sw (x : Ar) : saidA (swA a b x) = (saidA x).map (other a b) := by
  unfold saidA swA
  show (if x.ref = true then [other a b x.nm] else []) ++ namesOf (mapE (other a b) x.x) = _
  rw [namesOf_sw ha hb, List.map_append]
  split <;> rfl
theorem saidS_sw (s : St) : saidS (swS a b s) = (saidS s).map (other a b) := by
  unfold saidS saidN
  rw [swS_eq]
  show ((if (!(s.kind == 10) && !noName (other a b s.nm)) = true then [other a b s.nm] else []) ++ namesOf (mapE (other a b) s.x)) ++ ((s.args.map (swA a b)).map saidA).flatten = _
  rw [other_no ha hb, namesOf_sw ha hb, List.map_append, List.map_append, List.map_flatten, List.map_map, List.map_map]
  have e : (saidA ∘ swA a b) = (List.map (other a b) ∘ saidA) := funext fun x => saidA_sw ha hb x
  rw [e]
  congr 2
  split <;> rfl
end
section
variable (a b : ByteArray)
mutual
theorem preS_sw : ∀ (s : St) (deep inn : Int) (els : Bool), (preS deep inn els (swS a b s)).map It.s = ((preS deep inn els s).map It.s).map (swS a b)
  | .mk i k ls nm pr x h ar th el, deep, inn, els => by
    rw [swS, preS, preS]
    simp only [List.map_cons, List.map_append]
    rw [preL_sw th, preL_sw el, swS]
theorem preL_sw : ∀ (l : List St) (deep inn : Int) (els : Bool), (preL deep inn els (swL a b l)).map It.s = ((preL deep inn els l).map It.s).map (swS a b)
  | [], deep, inn, els => by rw [swL, preL]; rfl
  | s :: r, deep, inn, els => by
    rw [swL, preL, preL]
    simp only [List.map_append]
    rw [preS_sw s, preL_sw r]
end
theorem sts_sw (f : Pc) : stsOf (swPc a b f) = (stsOf f).map (swS a b) := by
  unfold stsOf itsOf
  exact preL_sw a b f.body 1 0 false
theorem ownNs_sw (f : Pc) : ownNs (swPc a b f) = (ownNs f).map (other a b) := by
  unfold ownNs swPc
  simp only [List.map_append, List.map_map]
  rfl
theorem parK_sw (s : ByteArray) (l : List Pa) : parK (other a b s) (l.map (swPa a b)) = parK s l := by
  unfold parK
  rw [List.find?_map]
  have e : ((fun x : Pa => x.nm.toList == (other a b s).toList) ∘ swPa a b) = fun x : Pa => x.nm.toList == s.toList := funext fun x => same_sw a b x.nm s
  rw [e]
  cases l.find? fun x : Pa => x.nm.toList == s.toList with
  | none => rfl
  | some x => rfl
theorem kindP_sw (g : List ByteArray) (f : Pc) (s : ByteArray) : kindP (g.map (other a b)) (swPc a b f) (other a b s) = kindP g f s := by
  unfold kindP
  show (if parK (other a b s) (f.params.map (swPa a b)) ≠ 0 then parK (other a b s) (f.params.map (swPa a b)) else if inB (other a b s) (f.vars.map (other a b)) then 4 else if inB (other a b s) (g.map (other a b)) then 1 else 0) = _
  rw [parK_sw, inB_sw, inB_sw]
theorem pcOf_sw (l : List Pc) (s : ByteArray) : pcOf (l.map (swPc a b)) (other a b s) = (pcOf l s).map (swPc a b) := by
  unfold pcOf
  rw [List.find?_map]
  have e : ((fun f : Pc => f.nm.toList == (other a b s).toList) ∘ swPc a b) = fun f : Pc => f.nm.toList == s.toList := funext fun f => same_sw a b f.nm s
  rw [e]
theorem procNs_sw (p : Pr) : procNs (swPr a b p) = (procNs p).map (other a b) := by
  unfold procNs swPr
  simp only [List.map_map]
  rfl
end
section
variable {a b : ByteArray} (ha : isName (bl a) = true) (hb : isName (bl b) = true) (ma : a ≠ sMain) (mb : b ≠ sMain)
include ma mb
theorem main_sw : other a b sMain = sMain := by
  rw [other_eq, if_neg (Ne.symm ma), if_neg (Ne.symm mb)]
include ha hb
theorem known_sw (g procs : List ByteArray) (f : Pc) (s : St) : knownS (g.map (other a b)) (swPc a b f) (procs.map (other a b)) (swS a b s) = knownS g f procs s := by
  unfold knownS
  rw [saidS_sw ha hb, List.all_map]
  have e : ((fun n => !(kindP (g.map (other a b)) (swPc a b f) n == 0)) ∘ other a b) = fun n => !(kindP g f n == 0) := funext fun n => by
    show (!(kindP (g.map (other a b)) (swPc a b f) (other a b n) == 0)) = _
    rw [kindP_sw]
  rw [e, swS_eq]
  show ((saidS s).all _ && (!(s.kind == 4) || (!((other a b s.proc).toList == sMain.toList) && inB (other a b s.proc) (procs.map (other a b))))) = _
  have hm : ((other a b s.proc).toList == sMain.toList) = (s.proc.toList == sMain.toList) := by
    conv => lhs; rw [← main_sw ma mb]
    exact same_sw a b _ _
  rw [hm, inB_sw]
theorem pcFault_sw (g procs : List ByteArray) (f : Pc) : pcFault (g.map (other a b)) (procs.map (other a b)) (swPc a b f) = pcFault g procs f := by
  unfold pcFault
  rw [ownNs_sw, twice_sw, List.any_map]
  have e : ((fun n => inB n (g.map (other a b))) ∘ other a b) = fun n => inB n g := funext fun n => inB_sw a b n g
  rw [e, sts_sw, List.find?_map]
  have e2 : ((fun s => !knownS (g.map (other a b)) (swPc a b f) (procs.map (other a b)) s) ∘ swS a b) = fun s => !knownS g f procs s := funext fun s => by
    show (!knownS (g.map (other a b)) (swPc a b f) (procs.map (other a b)) (swS a b s)) = _
    rw [known_sw ha hb ma mb]
  rw [e2, Option.map_map]
  have e3 : (St.id ∘ swS a b) = St.id := funext fun s => by
    show (swS a b s).id = s.id
    rw [swS_eq]
    rfl
  rw [e3]
omit ha hb in
theorem headFault_sw (p : Pr) : headFault (swPr a b p) = headFault p := by
  unfold headFault
  rw [procNs_sw, twice_sw]
  show (twiceB (p.globals.map (other a b)) || twiceB (procNs p) || match pcOf (p.procs.map (swPc a b)) sMain with
    | some f => decide (0 < f.params.length)
    | none => true) = _
  rw [twice_sw]
  conv => lhs; rw [← main_sw ma mb]
  rw [pcOf_sw]
  cases pcOf p.procs sMain with
  | none => rfl
  | some f =>
    show (_ || decide (0 < (f.params.map (swPa a b)).length)) = _
    rw [List.length_map]
theorem scopeP_sw (p : Pr) : scopeP (swPr a b p) = scopeP p := by
  unfold scopeP
  rw [sw_mayP ha hb, headFault_sw ma mb, procNs_sw]
  have e : (swPr a b p).procs.findSome? (pcFault (swPr a b p).globals ((procNs p).map (other a b))) = p.procs.findSome? (pcFault p.globals (procNs p)) := by
    show (p.procs.map (swPc a b)).findSome? (pcFault (p.globals.map (other a b)) ((procNs p).map (other a b))) = _
    rw [List.findSome?_map]
    congr 1
    exact funext fun f => pcFault_sw ha hb ma mb _ _ f
  rw [e]
omit ma mb in
theorem kindIn_sw (p : Pr) (s n : ByteArray) : kindIn (swPr a b p) (other a b s) (other a b n) = kindIn p s n := by
  unfold kindIn pcIn
  rw [sw_mayP ha hb]
  cases mayP p with
  | false => rfl
  | true =>
    rw [if_pos rfl, if_pos rfl]
    show (match pcOf (p.procs.map (swPc a b)) (other a b s) with
      | some f => kindP (p.globals.map (other a b)) f (other a b n)
      | none => 0) = _
    rw [pcOf_sw]
    cases pcOf p.procs s with
    | none => rfl
    | some f => exact kindP_sw a b _ _ _
omit ma mb in
theorem RoomP.sw {p : Pr} (h : RoomP p) : RoomP (swPr a b p) := by
  refine ⟨by rw [sw_cnt]; exact h.cnt, by show (p.procs.map _).length ≤ _; rw [List.length_map]; exact h.procs, by show (p.globals.map _).length ≤ _; rw [List.length_map]; exact h.glob, fun f hf => ?_, fun f hf s hs => ?_, fun f hf => ?_⟩
  · obtain ⟨g, hg, rfl⟩ := List.mem_map.1 hf
    show (g.params.map _).length + (g.vars.map _).length ≤ _
    rw [List.length_map, List.length_map]
    exact h.own g hg
  · obtain ⟨g, hg, rfl⟩ := List.mem_map.1 hf
    rw [sts_sw] at hs
    obtain ⟨t, ht, rfl⟩ := List.mem_map.1 hs
    rw [saidS_sw ha hb, List.length_map]
    exact h.said g hg t ht
  · obtain ⟨g, hg, rfl⟩ := List.mem_map.1 hf
    have e : labsOf (swPc a b g) = (labsOf g).map (other a b) := by
      unfold labsOf labLs
      rw [sts_sw]
      show (((stsOf g).map (swS a b)).map St.labels).flatten ++ g.fin.map (other a b) = _
      rw [List.map_append, List.map_flatten, List.map_map, List.map_map]
      congr 2
      exact congrFun (congrArg List.map (funext fun s => by show (swS a b s).labels = _; rw [swS_eq]; rfl)) _
    rw [e, List.length_map]
    exact h.labs g hg
end
end Go.Proofs.Ytghlmengcidmdaa.Tr
end
section
/- The law ScopeSwap, walked: it returns true. Conditions: the arguments lie in memory. -/
namespace Go.Proofs.Ytghlmengcidmdaa.Tr
open Go.RowKit Go.Proofs.Ytghlmengcidmdaa.Lx Go.Proofs.Ytghlmengcidmdaa.Wd
set_option linter.unusedSimpArgs false
set_option maxHeartbeats 4000000 in
set_option maxRecDepth 100000 in
theorem law_scopeSwap {w : World} (d : Nat) (p : Pr) (gv pv : Value) (hp : PrC (cw w) d gv pv p) (a : ByteArray) (ha : a.size ≤ 9223372036854775807) (b : ByteArray) (hb : b.size ≤ 9223372036854775807) (proc : ByteArray) (hpr : proc.size ≤ 9223372036854775807) (nm : ByteArray) (hnm : nm.size ≤ 9223372036854775807) :
    Calls Try.prog 10 #[.agg #[gv, pv], .string a, .string b, .string proc, .string nm] w fun e w' => e = .returned (.bool true) ∧ Below w.heap.size w w' := by
  obtain ⟨ga, gc, rfl, -, -⟩ := hp.1.form
  obtain ⟨pa, pc, rfl, hpl1, hpl2⟩ := hp.2.form
  have hpl : p.procs.length ≤ 9223372036854775807 := Nat.le_trans hpl1 hpl2
  have HP := Lib.hid hp
  clear hp hpl1 hpl2
  go_enter Try.func10, Try.ntmps10
  go_upto_region 1 with fail
  refine cut_world (fun wx => Below w.heap.size w wx ∧ BoxAt wx w.heap.size [.slice ga p.globals.length gc, .slice pa p.procs.length pc]) ⟨boxed _ _, box_new w #[.slice ga p.globals.length gc, .slice pa p.procs.length pc] 25⟩ ?_
  rintro w1 ⟨hb1, hx1⟩
  have HB1 := Lib.hid hb1
  have HX1 := Lib.hid hx1
  have HP1 := Lib.hid (PrC.mono (cw_next hb1) HP.out)
  clear hb1 hx1
  have p0 := HX1.out 0 _ rfl
  have p1 := HX1.out 1 _ rfl
  go_wp2_with fail
  refine (scoped_any _).mono ?_
  rintro e w2 ⟨rfl, hb2⟩
  have HX2 := Lib.hid (HX1.out.next hb2)
  have HP2 := Lib.hid (PrC.mono (cw_next hb2) HP1.out)
  have HB2 := Lib.hid (HB1.out.trans (hb2.mono HB1.out.size))
  clear hb2
  clear p0 p1
  have p0 := HX2.out 0 _ rfl
  have p1 := HX2.out 1 _ rfl
  go_wp2_with fail
  refine (fits_any d p _ _ _ HP2.out).mono ?_
  rintro e w3 ⟨b1, hf1, rfl, hb3⟩
  have HF1 := Lib.hid hf1
  clear hf1
  have HX3 := Lib.hid (HX2.out.next hb3)
  have HP3 := Lib.hid (PrC.mono (cw_next hb3) HP2.out)
  have HB3 := Lib.hid (HB2.out.trans (hb3.mono HB2.out.size))
  clear hb3
  clear p0 p1
  cases b1 with
  | false =>
    have p0 := HX3.out 0 _ rfl
    have p1 := HX3.out 1 _ rfl
    go_wp2_with fail
    go_ret
    exact ⟨rfl, HB3.out⟩
  | true =>
    have HWP := Lib.hid (HF1.out (by simp))
    have HROOM := Lib.hid (RoomP.of (Nat.le_trans HWP.out (by decide)))
    clear HF1
    obtain ⟨MA, hMA⟩ : ∃ c, Hid ((a.toList == sMain.toList) = c) := ⟨_, Lib.hid rfl⟩
    obtain ⟨MB, hMB⟩ : ∃ c, Hid ((b.toList == sMain.toList) = c) := ⟨_, Lib.hid rfl⟩
    have hma : (a.toList == [109, 97, 105, 110]) = MA := by rw [← main_list]; exact hMA.out
    have hmb : (b.toList == [109, 97, 105, 110]) = MB := by rw [← main_list]; exact hMB.out
    have p0 := HX3.out 0 _ rfl
    have p1 := HX3.out 1 _ rfl
    go_wp2_with fail
    refine (name_any a _ ha).mono ?_
    rintro e w' ⟨rfl, rfl⟩
    obtain ⟨Na, hNa⟩ : ∃ c, Hid (isName (bl a) = c) := ⟨_, Lib.hid rfl⟩
    rw [hNa.out]
    cases Na with
    | false =>
      go_wp2_with fail
      go_ret
      exact ⟨rfl, HB3.out⟩
    | true =>
      go_wp2_with fail
      refine (name_any b _ hb).mono ?_
      rintro e w' ⟨rfl, rfl⟩
      obtain ⟨Nb, hNb⟩ : ∃ c, Hid (isName (bl b) = c) := ⟨_, Lib.hid rfl⟩
      rw [hNb.out]
      cases Nb with
      | false =>
        go_wp2_with fail
        go_ret
        exact ⟨rfl, HB3.out⟩
      | true =>
        cases MA with
        | true =>
          go_wp2_with fail
          go_ret
          exact ⟨rfl, HB3.out⟩
        | false =>
          cases MB with
          | true =>
            go_wp2_with fail
            go_ret
            exact ⟨rfl, HB3.out⟩
          | false =>
            have HMA := Lib.hid (same_no.1 hMA.out)
            have HMB := Lib.hid (same_no.1 hMB.out)
            go_wp2_with fail
            refine (mayP_any d p _ _ _ HP3.out).mono ?_
            rintro e w4 ⟨rfl, hb4⟩
            obtain ⟨m1, hm1⟩ : ∃ m, Hid (mayP p = m) := ⟨_, Lib.hid rfl⟩
            rw [hm1.out]
            have HX4 := Lib.hid (HX3.out.next hb4)
            have HP4 := Lib.hid (PrC.mono (cw_next hb4) HP3.out)
            have HB4 := Lib.hid (HB3.out.trans (hb4.mono HB3.out.size))
            clear hb4 p0 p1 hma hmb
            cases m1 with
            | false =>
              go_wp2_with fail
              go_ret
              exact ⟨rfl, HB4.out⟩
            | true =>
              obtain ⟨Q, hQ⟩ : ∃ Q, Hid (swPr a b p = Q) := ⟨_, Lib.hid rfl⟩
              have p0 := HX4.out 0 _ rfl
              have p1 := HX4.out 1 _ rfl
              go_wp2_with fail
              refine ((swapP_row a b ha hb d p _ _ _ HP4.out (FewP.of HWP.out)).mono fun _ _ h => h.made).mono ?_
              rw [hQ.out]
              rintro e w5 ⟨gq, pq, rfl, hpq, hb5⟩
              obtain ⟨gqa, gqc, rfl, -, -⟩ := hpq.1.form
              obtain ⟨pqa, pqc, rfl, -, -⟩ := hpq.2.form
              have HPQ5 := Lib.hid (PrC.mono only_out hpq)
              have HX5 := Lib.hid (HX4.out.next hb5)
              have HP5 := Lib.hid (PrC.mono (cw_next hb5) HP4.out)
              have HB5 := Lib.hid (HB4.out.trans (hb5.mono HB4.out.size))
              clear hb5 hpq p0 p1
              go_upto_region 8 with fail
              refine cut_world (fun wx => Below w5.heap.size w5 wx ∧ BoxAt wx w5.heap.size [.slice gqa Q.globals.length gqc, .slice pqa Q.procs.length pqc]) ⟨boxed w5 _, box_new w5 #[.slice gqa Q.globals.length gqc, .slice pqa Q.procs.length pqc] 25⟩ ?_
              rintro w6 ⟨hb6, hy6⟩
              have HY6 := Lib.hid hy6
              have HPQ6 := Lib.hid (PrC.mono (cw_next hb6) HPQ5.out)
              have HX6 := Lib.hid (HX5.out.next hb6)
              have HP6 := Lib.hid (PrC.mono (cw_next hb6) HP5.out)
              have HB6 := Lib.hid (HB5.out.trans (hb6.mono HB5.out.size))
              clear hb6 hy6
              have htx : StrsAt (w6.alloc (.cells #[.string proc, .string nm] 9)) (.slice (some ⟨w6.heap.size, 0, none⟩) 2 2) [proc, nm] := StrC.to ⟨_, 2, rfl, Nat.le_refl _, by omega, fun _ => ⟨w6.heap.size, 0, rfl, fun i hi => by
                have hbx := box_new w6 #[.string proc, .string nm] 9
                match i, hi with
                | 0, _ => exact ⟨hbx 0 _ rfl, hpr⟩
                | 1, _ => exact ⟨hbx 1 _ rfl, hnm⟩⟩⟩
              have HTX := Lib.hid htx
              have HBN := Lib.hid (boxed w6 (.cells #[.string proc, .string nm] 9))
              clear htx
              go_wp2_with fail
              refine (swapTexts_any [proc, nm] _ a b _ HTX.out (by simp) ha hb).mono ?_
              rintro e w7 ⟨v7, rfl, hs7, hb7'⟩
              have hb7 := HBN.out.trans (hb7'.mono HBN.out.size)
              have hs7' := StrC.mono only_out hs7
              obtain ⟨g7, o7, c7, rfl, -, hc7⟩ := SlAt.cells hs7' (by simp)
              have x70 : w7.cell? ⟨g7, o7 + 0 * 1, none⟩ = some (.string (other a b proc)) := (hc7 0 (by simp)).1
              have x71 : w7.cell? ⟨g7, o7 + 1 * 1, none⟩ = some (.string (other a b nm)) := (hc7 1 (by simp)).1
              rw [Nat.zero_mul, Nat.add_zero] at x70
              rw [Nat.one_mul] at x71
              have HX70 := Lib.hid x70
              have HX71 := Lib.hid x71
              have HY7 := Lib.hid (HY6.out.next hb7)
              have HPQ7 := Lib.hid (PrC.mono (cw_next hb7) HPQ6.out)
              have HX7 := Lib.hid (HX6.out.next hb7)
              have HP7 := Lib.hid (PrC.mono (cw_next hb7) HP6.out)
              have HB7 := Lib.hid (HB6.out.trans (hb7.mono HB6.out.size))
              clear hb7 hb7' hs7 hs7' hc7 x70 x71
              simp only [List.map_cons, List.map_nil, List.length_cons, List.length_nil]
              go_upto_region 9 with fail
              have hq : Below w7.heap.size w7 w7.drew := (Below.refl _ _).drew
              have HSW := Lib.hid (show scopeP Q = scopeP p by rw [← hQ.out]; exact scopeP_sw hNa.out hNb.out HMA.out HMB.out p)
              have HKW := Lib.hid (show kindIn Q (other a b proc) (other a b nm) = kindIn p proc nm by rw [← hQ.out]; exact kindIn_sw hNa.out hNb.out p proc nm)
              have HRQ : Hid (RoomP Q) := Lib.hid (by rw [← hQ.out]; exact RoomP.sw hNa.out hNb.out HROOM.out)
              obtain ⟨KI, hKI⟩ : ∃ k, Hid (kindIn p proc nm = k) := ⟨_, Lib.hid rfl⟩
              obtain ⟨F1, hF1⟩ : ∃ k, Hid ((scopeP p).1 = k) := ⟨_, Lib.hid rfl⟩
              obtain ⟨F2, hF2⟩ : ∃ k, Hid ((scopeP p).2 = k) := ⟨_, Lib.hid rfl⟩
              have hkk : (KI == KI) = true := by simp
              refine wp_region_z (fun w' => BoxAt w' w.heap.size [.slice ga p.globals.length gc, .slice pa p.procs.length pc] ∧ BoxAt w' w5.heap.size [.slice gqa Q.globals.length gqc, .slice pqa Q.procs.length pqc] ∧ w'.cell? ⟨g7, o7, none⟩ = some (.string (other a b proc)) ∧ w'.cell? ⟨g7, o7 + 1, none⟩ = some (.string (other a b nm))) 20 (by kernel_rfl) ⟨HX7.out.next hq, HY7.out.next hq, cell_next hq HX70.out, cell_next hq HX71.out⟩ (fun hS => ?_)
              show wpAnyZ _ _ _ _ _ _ 21 #[false, false, false, false, false, false, false, false, false, false, false, false, false, false, false, false, false, false, false, false, false] _ _
              refine' wpAnyZ_take (i := 0) (oi := _) (v := _) rfl (by kernel_rfl) (by kernel_rfl) (by kernel_rfl) (by kernel_rfl) (fun _ _ _ h => h) (Or.inl ⟨by rfl, ?hy0⟩) hS ?rest0
              case hy0 => (intro w hSw; have c0 := hSw.2.1 0 _ rfl; have c1 := hSw.2.1 1 _ rfl; clear hSw; go_simp; (try with_reducible rfl))
              try simp only [Act.put, List.getElem_toArray, List.getElem_cons_succ, List.getElem_cons_zero, List.setIfInBounds_toArray, List.set_cons_zero, List.set_cons_succ]
              refine' wpAnyZ_take (i := 2) (oi := _) (v := _) rfl (by kernel_rfl) (by kernel_rfl) (by kernel_rfl) (by kernel_rfl) (fun _ _ _ h => h) (Or.inl ⟨by rfl, ?hy2⟩) hS ?rest2
              case hy2 => (intro w hSw; have c0 := hSw.1 0 _ rfl; have c1 := hSw.1 1 _ rfl; clear hSw; go_simp; (try with_reducible rfl))
              try simp only [Act.put, List.getElem_toArray, List.getElem_cons_succ, List.getElem_cons_zero, List.setIfInBounds_toArray, List.set_cons_zero, List.set_cons_succ]
              refine' wpAnyZ_step (i := 1) (o := _) rfl (by kernel_rfl) (fun K hK => ?_)
              go_simp
              go_at_call 38
              refine (scheck_any d Q _ _ _ (PrC.mono (cw_next hq) HPQ7.out) HRQ.out).mono ?_
              rintro e w8 ⟨rfl, hb8⟩
              rw [HSW.out, hF1.out, hF2.out]
              have L8 := Lib.hid (below_then hb8 hq)
              clear hb8
              refine hK _ _ (fun _ => ⟨HX7.out.next L8.out, HY7.out.next L8.out, cell_next L8.out HX70.out, cell_next L8.out HX71.out⟩) ?_
              clear hK K
              try simp only [Act.put, List.getElem_toArray, List.getElem_cons_succ, List.getElem_cons_zero, List.setIfInBounds_toArray, List.set_cons_zero, List.set_cons_succ]
              refine' wpAnyZ_step (i := 3) (o := _) rfl (by kernel_rfl) (fun K hK => ?_)
              go_simp
              go_at_call 38
              refine (scheck_any d p _ _ _ (PrC.mono (cw_next L8.out) HP7.out) HROOM.out).mono ?_
              rintro e w9 ⟨rfl, hb9⟩
              rw [hF1.out, hF2.out]
              have L9 := Lib.hid (L8.out.trans (hb9.mono L8.out.size))
              clear hb9
              refine hK _ _ (fun _ => ⟨HX7.out.next L9.out, HY7.out.next L9.out, cell_next L9.out HX70.out, cell_next L9.out HX71.out⟩) ?_
              clear hK K
              try simp only [Act.put, List.getElem_toArray, List.getElem_cons_succ, List.getElem_cons_zero, List.setIfInBounds_toArray, List.set_cons_zero, List.set_cons_succ]
              refine' wpAnyZ_step (i := 4) (o := _) rfl (by kernel_rfl) (fun K hK => ?_)
              have heq := fault_same F1 F2
              go_simp
              refine hK _ _ (fun _ => ⟨HX7.out.next L9.out, HY7.out.next L9.out, cell_next L9.out HX70.out, cell_next L9.out HX71.out⟩) ?_
              clear hK K
              try simp only [Act.put, List.getElem_toArray, List.getElem_cons_succ, List.getElem_cons_zero, List.setIfInBounds_toArray, List.set_cons_zero, List.set_cons_succ]
              refine' wpAnyZ_step (i := 5) (o := _) rfl (by kernel_rfl) (fun K hK => ?_)
              go_simp
              refine hK _ _ (fun _ => ⟨HX7.out.next L9.out, HY7.out.next L9.out, cell_next L9.out HX70.out, cell_next L9.out HX71.out⟩) ?_
              clear hK K
              try simp only [Act.put, List.getElem_toArray, List.getElem_cons_succ, List.getElem_cons_zero, List.setIfInBounds_toArray, List.set_cons_zero, List.set_cons_succ]
              have hS9 : BoxAt w9 w.heap.size [.slice ga p.globals.length gc, .slice pa p.procs.length pc] ∧ BoxAt w9 w5.heap.size [.slice gqa Q.globals.length gqc, .slice pqa Q.procs.length pqc] ∧ w9.cell? ⟨g7, o7, none⟩ = some (.string (other a b proc)) ∧ w9.cell? ⟨g7, o7 + 1, none⟩ = some (.string (other a b nm)) := ⟨HX7.out.next L9.out, HY7.out.next L9.out, cell_next L9.out HX70.out, cell_next L9.out HX71.out⟩
              refine' wpAnyZ_take (i := 6) (oi := _) (v := _) rfl (by kernel_rfl) (by kernel_rfl) (by kernel_rfl) (by kernel_rfl) (fun _ _ _ h => h) (Or.inl ⟨by rfl, ?hy6⟩) hS9 ?rest6
              case hy6 => (intro w hSw; have c0 := hSw.2.1 0 _ rfl; have c1 := hSw.2.1 1 _ rfl; clear hSw; go_simp; (try with_reducible rfl))
              try simp only [Act.put, List.getElem_toArray, List.getElem_cons_succ, List.getElem_cons_zero, List.setIfInBounds_toArray, List.set_cons_zero, List.set_cons_succ]
              refine' wpAnyZ_take (i := 7) (oi := _) (v := _) rfl (by kernel_rfl) (by kernel_rfl) (by kernel_rfl) (by kernel_rfl) (fun _ _ _ h => h) (Or.inl ⟨by rfl, ?hy7⟩) hS9 ?rest7
              case hy7 => (intro w hSw; clear hSw; go_simp; (try with_reducible rfl))
              try simp only [Act.put, List.getElem_toArray, List.getElem_cons_succ, List.getElem_cons_zero, List.setIfInBounds_toArray, List.set_cons_zero, List.set_cons_succ]
              refine' wpAnyZ_take (i := 8) (oi := _) (v := _) rfl (by kernel_rfl) (by kernel_rfl) (by kernel_rfl) (by kernel_rfl) (fun _ _ _ h => h) (Or.inl ⟨by rfl, ?hy8⟩) hS9 ?rest8
              case hy8 => (intro w hSw; clear hSw; go_simp; (try with_reducible rfl))
              try simp only [Act.put, List.getElem_toArray, List.getElem_cons_succ, List.getElem_cons_zero, List.setIfInBounds_toArray, List.set_cons_zero, List.set_cons_succ]
              refine' wpAnyZ_take (i := 9) (oi := _) (v := _) rfl (by kernel_rfl) (by kernel_rfl) (by kernel_rfl) (by kernel_rfl) (fun _ _ _ h => h) (Or.inl ⟨by rfl, ?hy9⟩) hS9 ?rest9
              case hy9 => (intro w hSw; have c0 := hSw.2.2.1; clear hSw; go_simp; (try with_reducible rfl))
              try simp only [Act.put, List.getElem_toArray, List.getElem_cons_succ, List.getElem_cons_zero, List.setIfInBounds_toArray, List.set_cons_zero, List.set_cons_succ]
              refine' wpAnyZ_take (i := 10) (oi := _) (v := _) rfl (by kernel_rfl) (by kernel_rfl) (by kernel_rfl) (by kernel_rfl) (fun _ _ _ h => h) (Or.inl ⟨by rfl, ?hy10⟩) hS9 ?rest10
              case hy10 => (intro w hSw; clear hSw; go_simp; (try with_reducible rfl))
              try simp only [Act.put, List.getElem_toArray, List.getElem_cons_succ, List.getElem_cons_zero, List.setIfInBounds_toArray, List.set_cons_zero, List.set_cons_succ]
              refine' wpAnyZ_take (i := 11) (oi := _) (v := _) rfl (by kernel_rfl) (by kernel_rfl) (by kernel_rfl) (by kernel_rfl) (fun _ _ _ h => h) (Or.inl ⟨by rfl, ?hy11⟩) hS9 ?rest11
              case hy11 => (intro w hSw; clear hSw; go_simp; (try with_reducible rfl))
              try simp only [Act.put, List.getElem_toArray, List.getElem_cons_succ, List.getElem_cons_zero, List.setIfInBounds_toArray, List.set_cons_zero, List.set_cons_succ]
              refine' wpAnyZ_take (i := 12) (oi := _) (v := _) rfl (by kernel_rfl) (by kernel_rfl) (by kernel_rfl) (by kernel_rfl) (fun _ _ _ h => h) (Or.inl ⟨by rfl, ?hy12⟩) hS9 ?rest12
              case hy12 => (intro w hSw; have c0 := hSw.2.2.2; clear hSw; go_simp; (try with_reducible rfl))
              try simp only [Act.put, List.getElem_toArray, List.getElem_cons_succ, List.getElem_cons_zero, List.setIfInBounds_toArray, List.set_cons_zero, List.set_cons_succ]
              refine' wpAnyZ_take (i := 14) (oi := _) (v := _) rfl (by kernel_rfl) (by kernel_rfl) (by kernel_rfl) (by kernel_rfl) (fun _ _ _ h => h) (Or.inl ⟨by rfl, ?hy14⟩) hS9 ?rest14
              case hy14 => (intro w hSw; have c0 := hSw.1 0 _ rfl; have c1 := hSw.1 1 _ rfl; clear hSw; go_simp; (try with_reducible rfl))
              try simp only [Act.put, List.getElem_toArray, List.getElem_cons_succ, List.getElem_cons_zero, List.setIfInBounds_toArray, List.set_cons_zero, List.set_cons_succ]
              refine' wpAnyZ_take (i := 15) (oi := _) (v := _) rfl (by kernel_rfl) (by kernel_rfl) (by kernel_rfl) (by kernel_rfl) (fun _ _ _ h => h) (Or.inl ⟨by rfl, ?hy15⟩) hS9 ?rest15
              case hy15 => (intro w hSw; clear hSw; go_simp; (try with_reducible rfl))
              try simp only [Act.put, List.getElem_toArray, List.getElem_cons_succ, List.getElem_cons_zero, List.setIfInBounds_toArray, List.set_cons_zero, List.set_cons_succ]
              refine' wpAnyZ_take (i := 16) (oi := _) (v := _) rfl (by kernel_rfl) (by kernel_rfl) (by kernel_rfl) (by kernel_rfl) (fun _ _ _ h => h) (Or.inl ⟨by rfl, ?hy16⟩) hS9 ?rest16
              case hy16 => (intro w hSw; clear hSw; go_simp; (try with_reducible rfl))
              try simp only [Act.put, List.getElem_toArray, List.getElem_cons_succ, List.getElem_cons_zero, List.setIfInBounds_toArray, List.set_cons_zero, List.set_cons_succ]
              refine' wpAnyZ_step (i := 13) (o := _) rfl (by kernel_rfl) (fun K hK => ?_)
              go_simp
              go_at_call 31
              refine (skind_any d Q _ _ (other a b proc) (other a b nm) _ (PrC.mono (cw_next L9.out) HPQ7.out)).mono ?_
              rintro e wa ⟨rfl, hba⟩
              rw [HKW.out, hKI.out]
              have LA := Lib.hid (L9.out.trans (hba.mono L9.out.size))
              clear hba hS9
              refine hK _ _ (fun _ => ⟨HX7.out.next LA.out, HY7.out.next LA.out, cell_next LA.out HX70.out, cell_next LA.out HX71.out⟩) ?_
              clear hK K
              try simp only [Act.put, List.getElem_toArray, List.getElem_cons_succ, List.getElem_cons_zero, List.setIfInBounds_toArray, List.set_cons_zero, List.set_cons_succ]
              refine' wpAnyZ_step (i := 17) (o := _) rfl (by kernel_rfl) (fun K hK => ?_)
              go_simp
              go_at_call 31
              refine (skind_any d p _ _ proc nm _ (PrC.mono (cw_next LA.out) HP7.out)).mono ?_
              rintro e wb ⟨rfl, hbb⟩
              rw [hKI.out]
              have LB := Lib.hid (LA.out.trans (hbb.mono LA.out.size))
              clear hbb
              refine hK _ _ (fun _ => ⟨HX7.out.next LB.out, HY7.out.next LB.out, cell_next LB.out HX70.out, cell_next LB.out HX71.out⟩) ?_
              clear hK K
              try simp only [Act.put, List.getElem_toArray, List.getElem_cons_succ, List.getElem_cons_zero, List.setIfInBounds_toArray, List.set_cons_zero, List.set_cons_succ]
              refine' wpAnyZ_step (i := 18) (o := _) rfl (by kernel_rfl) (fun K hK => ?_)
              go_simp
              refine hK _ _ (fun _ => ⟨HX7.out.next LB.out, HY7.out.next LB.out, cell_next LB.out HX70.out, cell_next LB.out HX71.out⟩) ?_
              clear hK K
              try simp only [Act.put, List.getElem_toArray, List.getElem_cons_succ, List.getElem_cons_zero, List.setIfInBounds_toArray, List.set_cons_zero, List.set_cons_succ]
              refine' wpAnyZ_step (i := 19) (o := _) rfl (by kernel_rfl) (fun K hK => ?_)
              go_simp
              refine hK _ _ (fun _ => ⟨HX7.out.next LB.out, HY7.out.next LB.out, cell_next LB.out HX70.out, cell_next LB.out HX71.out⟩) ?_
              clear hK K
              try simp only [Act.put, List.getElem_toArray, List.getElem_cons_succ, List.getElem_cons_zero, List.setIfInBounds_toArray, List.set_cons_zero, List.set_cons_succ]
              refine' wpAnyZ_step (i := 20) (o := _) rfl (by kernel_rfl) (fun K hK => ?_)
              go_simp
              refine hK _ _ (fun h => absurd rfl h) ?_
              clear hK K
              try simp only [Act.put, List.getElem_toArray, List.getElem_cons_succ, List.getElem_cons_zero, List.setIfInBounds_toArray, List.set_cons_zero, List.set_cons_succ]
              refine wpAnyZ_done (by kernel_rfl) ?_ _
              have HBZ := Lib.hid (HB7.out.trans (LB.out.mono HB7.out.size))
              clear hS hq
              go_wp2_with fail
              go_ret
              exact ⟨rfl, HBZ.out⟩
end Go.Proofs.Ytghlmengcidmdaa.Tr
end
