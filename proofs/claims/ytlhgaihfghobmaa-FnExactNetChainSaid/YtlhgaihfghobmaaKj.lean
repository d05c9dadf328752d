import Derived.Test.YtlhgaihfghobmaaW1
namespace Go.Proofs.Ytlhgaihfghobmaa
open Go.ChangeShapes Go.WideShapes Go.ChangeAt Go.RowKit Go.Deep
theorem and_ok {a b : Bool} (x : a = true) (y : b = true) : (a && b) = true := by rw [x, y]; rfl
theorem joined_mk {P : Program} {f : FuncId} {fn : Func} {s : ChangeSpec} {c : OpenClaim}
    (a1 : (c.wf (OpenSpec.ofChange s)) = true)
    (a2 : (laidOutB P) = true)
    (a3 : (mapsRowed P) = true)
    (a4 : (fn.params.all (P.readableRec ·)) = true)
    (a5 : (namedTie P c.named s.vars) = true)
    (a6 : ((c.stops == [])) = true)
    (a7 : ((P.stops == [])) = true)
    (a8 : ((c.knobs == [])) = true)
    (a9 : ((P.stopKnobs == [])) = true)
    (b1 : ((c.inPlace == P.inPlace f)) = true)
    (b2 : ((c.unfollowed == P.unfollowed f)) = true)
    (b3 : ((c.recurses == P.recurses f)) = true)
    (b4 : ((c.named == P.varsNamed f)) = true)
    (b5 : ((c.maps == (fn.params.toList ++ s.plain.varTypes P).any (P.mapsRec ·))) = true)
    (b6 : ((c.ifaces == (fn.params.toList ++ s.plain.varTypes P).any (P.ifacesRec ·))) = true)
    (b7 : ((c.mapsOut == P.mapsAmong fn.resultTypes.toList)) = true)
    (b8 : ((c.loops == (fn.params.toList ++ s.plain.varTypes P).any (P.loopsFrom ·))) = true)
    (b9 : ((c.wideKeys == (fn.params.toList ++ s.plain.varTypes P ++ fn.resultTypes.toList).any (P.wideKeysFrom ·))) = true)
    (c1 : (s.vars.all (P.varReadable ·)) = true)
    (c2 : (fn.resultTypes.all (fun t => P.readableRec t && decide (t < P.types.size))) = true)
    (c3 : ((c.ifacesOut == fn.resultTypes.toList.any (P.ifacesRec ·))) = true)
    (c4 : ((c.loopsOut == fn.resultTypes.toList.any (P.loopsFrom ·))) = true)
    (c5 : ((c.plainKeys == P.plainKeys)) = true)
    (c6 : (c.shortTexts.isNone) = true)
    (c7 : (P.stopsHeard) = true)
    (c8 : (P.mayEnter) = true)
    (c9 : ((c.lifted == P.liftsFinal)) = true)
    (d1 : ((P.make == some c.make)) = true)
    (d2 : ((c.kinds == (if c.domain.isEmpty then [] else fn.params.toList.map fun t => match P.underlying t with | some (.int k) => some k | _ => none))) = true)
    (d3 : ((c.pinned == c.pinnedBy)) = true)
    (d4 : ((c.veiled == (fn.params.toList ++ s.plain.varTypes P ++ fn.resultTypes.toList).any (P.veiledRec ·))) = true)
    (d5 : (c.veiledFits P fn.params.toList (fn.params.toList ++ s.plain.varTypes P ++ fn.resultTypes.toList)) = true)
    : joinedFacts P f fn s c = true := by
  unfold joinedFacts
  exact (and_ok (and_ok (and_ok (and_ok (and_ok (and_ok (and_ok (and_ok (and_ok (and_ok (and_ok (and_ok (and_ok (and_ok (and_ok (and_ok (and_ok (and_ok (and_ok (and_ok (and_ok (and_ok (and_ok (and_ok (and_ok (and_ok (and_ok (and_ok (and_ok (and_ok (and_ok a1 a2) a3) a4) a5) a6) a7) a8) a9) b1) b2) b3) b4) b5) b6) b7) b8) b9) c1) c2) c3) c4) c5) c6) c7) c8) c9) d1) d2) d3) d4) d5)
abbrev ch (n : Nat) : Char := Char.ofNat n
abbrev cutW : List Char := [ch 99, ch 117, ch 116]
theorem words_step : ∀ (w r : List Char), (w.all fun c => !(c == (ch 32))) = true → wordsSigns (w ++ (ch 32) :: r) = w :: wordsSigns r
  | [], _, _ => rfl
  | c :: w, r, h => by
    simp only [List.all_cons, Bool.and_eq_true, Bool.not_eq_true', beq_eq_false_iff_ne] at h
    show wordsSigns (c :: (w ++ (ch 32) :: r)) = _
    rw [wordsSigns.eq_3 _ _ h.1, words_step w r h.2]
theorem words_last : ∀ (w : List Char), (w.all fun c => !(c == (ch 32))) = true → wordsSigns w = [w]
  | [], _ => rfl
  | c :: w, h => by
    simp only [List.all_cons, Bool.and_eq_true, Bool.not_eq_true', beq_eq_false_iff_ne] at h
    rw [wordsSigns.eq_3 _ _ h.1, words_last w h.2]
def ow0 : List Char := [ch 104, ch 97, ch 114, ch 110, ch 101, ch 115, ch 115]
def ow1 : List Char := [ch 56, ch 102, ch 102, ch 101, ch 102, ch 99, ch 49, ch 102, ch 49, ch 98, ch 102, ch 51, ch 98, ch 52, ch 101, ch 55, ch 102, ch 101, ch 97, ch 55, ch 50, ch 55, ch 52, ch 98, ch 56, ch 102, ch 99, ch 50, ch 49, ch 52, ch 101, ch 102, ch 56, ch 97, ch 53, ch 52, ch 49, ch 50, ch 48, ch 52, ch 102, ch 56, ch 101, ch 57, ch 51, ch 99, ch 52, ch 55, ch 55, ch 98, ch 98, ch 56, ch 51, ch 100, ch 51, ch 100, ch 48, ch 55, ch 57, ch 50, ch 55, ch 97, ch 101, ch 53]
def ow2 : List Char := [ch 99, ch 117, ch 116]
def ow3 : List Char := [ch 97, ch 116]
def ow4 : List Char := [ch 108, ch 111, ch 111, ch 112, ch 46, ch 101, ch 120, ch 97, ch 109, ch 112, ch 108, ch 101, ch 47, ch 103, ch 48, ch 49, ch 50, ch 53, ch 51, ch 47, ch 108, ch 97, ch 119, ch 115, ch 46, ch 70, ch 110, ch 69, ch 120, ch 97, ch 99, ch 116, ch 86, ch 97, ch 108, ch 105, ch 100, ch 67, ch 104, ch 97, ch 105, ch 110]
def ow5 : List Char := [ch 108, ch 111, ch 111, ch 112, ch 46, ch 101, ch 120, ch 97, ch 109, ch 112, ch 108, ch 101, ch 47, ch 103, ch 48, ch 49, ch 50, ch 53, ch 51, ch 47, ch 108, ch 97, ch 119, ch 115, ch 46, ch 70, ch 110, ch 69, ch 120, ch 97, ch 99, ch 116, ch 77, ch 111, ch 109, ch 101, ch 110, ch 116, ch 117, ch 109, ch 79, ch 102]
def ow6 : List Char := [ch 108, ch 111, ch 111, ch 112, ch 46, ch 101, ch 120, ch 97, ch 109, ch 112, ch 108, ch 101, ch 47, ch 103, ch 48, ch 49, ch 50, ch 53, ch 51, ch 47, ch 108, ch 97, ch 119, ch 115, ch 46, ch 70, ch 110, ch 69, ch 120, ch 97, ch 99, ch 116, ch 67, ch 101, ch 110, ch 116, ch 114, ch 101, ch 79, ch 102, ch 67, ch 104, ch 97, ch 105, ch 110]
def ow7 : List Char := [ch 108, ch 111, ch 111, ch 112, ch 46, ch 101, ch 120, ch 97, ch 109, ch 112, ch 108, ch 101, ch 47, ch 103, ch 48, ch 49, ch 50, ch 53, ch 51, ch 47, ch 108, ch 97, ch 119, ch 115, ch 46, ch 70, ch 110, ch 69, ch 120, ch 97, ch 99, ch 116, ch 69, ch 110, ch 101, ch 114, ch 103, ch 121, ch 79, ch 102, ch 67, ch 104, ch 97, ch 105, ch 110]
def ow8 : List Char := [ch 108, ch 111, ch 111, ch 112, ch 46, ch 101, ch 120, ch 97, ch 109, ch 112, ch 108, ch 101, ch 47, ch 103, ch 48, ch 49, ch 50, ch 53, ch 51, ch 47, ch 108, ch 97, ch 119, ch 115, ch 46, ch 70, ch 110, ch 69, ch 120, ch 97, ch 99, ch 116, ch 82, ch 111, ch 112, ch 101, ch 67, ch 104, ch 97, ch 105, ch 110]
def ow9 : List Char := [ch 108, ch 111, ch 111, ch 112, ch 46, ch 101, ch 120, ch 97, ch 109, ch 112, ch 108, ch 101, ch 47, ch 103, ch 48, ch 49, ch 50, ch 53, ch 51, ch 47, ch 108, ch 97, ch 119, ch 115, ch 46, ch 70, ch 110, ch 69, ch 120, ch 97, ch 99, ch 116, ch 78, ch 101, ch 116, ch 67, ch 104, ch 97, ch 105, ch 110]
def ow10 : List Char := [ch 108, ch 111, ch 111, ch 112, ch 46, ch 101, ch 120, ch 97, ch 109, ch 112, ch 108, ch 101, ch 47, ch 103, ch 48, ch 49, ch 50, ch 53, ch 51, ch 47, ch 108, ch 97, ch 119, ch 115, ch 46, ch 70, ch 110, ch 69, ch 120, ch 97, ch 99, ch 116, ch 82, ch 111, ch 100, ch 76, ch 111, ch 110, ch 103]
def ow11 : List Char := [ch 108, ch 111, ch 111, ch 112, ch 46, ch 101, ch 120, ch 97, ch 109, ch 112, ch 108, ch 101, ch 47, ch 103, ch 48, ch 49, ch 50, ch 53, ch 51, ch 47, ch 108, ch 97, ch 119, ch 115, ch 46, ch 70, ch 110, ch 69, ch 120, ch 97, ch 99, ch 116, ch 67, ch 111, ch 108, ch 111, ch 117, ch 114, ch 115, ch 79, ch 102, ch 82, ch 111, ch 100, ch 115]
def ow12 : List Char := [ch 108, ch 111, ch 111, ch 112, ch 46, ch 101, ch 120, ch 97, ch 109, ch 112, ch 108, ch 101, ch 47, ch 103, ch 48, ch 49, ch 50, ch 53, ch 51, ch 47, ch 108, ch 97, ch 119, ch 115, ch 46, ch 70, ch 110, ch 69, ch 120, ch 97, ch 99, ch 116, ch 87, ch 111, ch 114, ch 115, ch 116, ch 82, ch 111, ch 100]
def ow13 : List Char := [ch 108, ch 111, ch 111, ch 112, ch 46, ch 101, ch 120, ch 97, ch 109, ch 112, ch 108, ch 101, ch 47, ch 103, ch 48, ch 49, ch 50, ch 53, ch 51, ch 47, ch 108, ch 97, ch 119, ch 115, ch 46, ch 70, ch 110, ch 69, ch 120, ch 97, ch 99, ch 116, ch 84, ch 117, ch 114, ch 110, ch 66, ch 97, ch 99, ch 107]
def ow14 : List Char := [ch 108, ch 111, ch 111, ch 112, ch 46, ch 101, ch 120, ch 97, ch 109, ch 112, ch 108, ch 101, ch 47, ch 103, ch 48, ch 49, ch 50, ch 53, ch 51, ch 47, ch 108, ch 97, ch 119, ch 115, ch 46, ch 70, ch 110, ch 69, ch 120, ch 97, ch 99, ch 116, ch 72, ch 111, ch 108, ch 100, ch 87, ch 101, ch 105, ch 103, ch 104, ch 116]
def ow15 : List Char := [ch 108, ch 111, ch 111, ch 112, ch 46, ch 101, ch 120, ch 97, ch 109, ch 112, ch 108, ch 101, ch 47, ch 103, ch 48, ch 49, ch 50, ch 53, ch 51, ch 47, ch 108, ch 97, ch 119, ch 115, ch 46, ch 70, ch 110, ch 69, ch 120, ch 97, ch 99, ch 116, ch 65, ch 100, ch 100, ch 82, ch 111, ch 100]
def ow16 : List Char := [ch 108, ch 111, ch 111, ch 112, ch 46, ch 101, ch 120, ch 97, ch 109, ch 112, ch 108, ch 101, ch 47, ch 103, ch 48, ch 49, ch 50, ch 53, ch 51, ch 47, ch 108, ch 97, ch 119, ch 115, ch 46, ch 70, ch 110, ch 69, ch 120, ch 97, ch 99, ch 116, ch 65, ch 100, ch 100, ch 87, ch 101, ch 105, ch 103, ch 104, ch 116]
def ow17 : List Char := [ch 108, ch 111, ch 111, ch 112, ch 46, ch 101, ch 120, ch 97, ch 109, ch 112, ch 108, ch 101, ch 47, ch 103, ch 48, ch 49, ch 50, ch 53, ch 51, ch 47, ch 108, ch 97, ch 119, ch 115, ch 46, ch 70, ch 110, ch 69, ch 120, ch 97, ch 99, ch 116, ch 77, ch 111, ch 118, ch 101, ch 67, ch 104, ch 97, ch 105, ch 110]
def ow18 : List Char := [ch 108, ch 111, ch 111, ch 112, ch 46, ch 101, ch 120, ch 97, ch 109, ch 112, ch 108, ch 101, ch 47, ch 103, ch 48, ch 49, ch 50, ch 53, ch 51, ch 47, ch 108, ch 97, ch 119, ch 115, ch 46, ch 70, ch 110, ch 69, ch 120, ch 97, ch 99, ch 116, ch 75, ch 105, ch 99, ch 107, ch 67, ch 104, ch 97, ch 105, ch 110]
def ow19 : List Char := [ch 108, ch 111, ch 111, ch 112, ch 46, ch 101, ch 120, ch 97, ch 109, ch 112, ch 108, ch 101, ch 47, ch 103, ch 48, ch 49, ch 50, ch 53, ch 51, ch 47, ch 108, ch 97, ch 119, ch 115, ch 46, ch 70, ch 110, ch 69, ch 120, ch 97, ch 99, ch 116, ch 68, ch 114, ch 111, ch 112, ch 82, ch 111, ch 100]
def ow20 : List Char := [ch 108, ch 111, ch 111, ch 112, ch 46, ch 101, ch 120, ch 97, ch 109, ch 112, ch 108, ch 101, ch 47, ch 103, ch 48, ch 49, ch 50, ch 53, ch 51, ch 47, ch 108, ch 97, ch 119, ch 115, ch 46, ch 70, ch 110, ch 69, ch 120, ch 97, ch 99, ch 116, ch 70, ch 108, ch 121, ch 67, ch 104, ch 97, ch 105, ch 110]
def ow21 : List Char := [ch 108, ch 111, ch 111, ch 112, ch 46, ch 101, ch 120, ch 97, ch 109, ch 112, ch 108, ch 101, ch 47, ch 103, ch 48, ch 49, ch 50, ch 53, ch 51, ch 47, ch 108, ch 97, ch 119, ch 115, ch 46, ch 70, ch 110, ch 69, ch 120, ch 97, ch 99, ch 116, ch 83, ch 116, ch 114, ch 97, ch 105, ch 103, ch 104, ch 116, ch 101, ch 110, ch 82, ch 111, ch 100]
def ow22 : List Char := [ch 108, ch 111, ch 111, ch 112, ch 46, ch 101, ch 120, ch 97, ch 109, ch 112, ch 108, ch 101, ch 47, ch 103, ch 48, ch 49, ch 50, ch 53, ch 51, ch 47, ch 108, ch 97, ch 119, ch 115, ch 46, ch 70, ch 110, ch 69, ch 120, ch 97, ch 99, ch 116, ch 83, ch 116, ch 114, ch 97, ch 105, ch 103, ch 104, ch 116, ch 101, ch 110, ch 65, ch 108, ch 108]
def ow23 : List Char := [ch 108, ch 111, ch 111, ch 112, ch 46, ch 101, ch 120, ch 97, ch 109, ch 112, ch 108, ch 101, ch 47, ch 103, ch 48, ch 49, ch 50, ch 53, ch 51, ch 47, ch 108, ch 97, ch 119, ch 115, ch 46, ch 70, ch 110, ch 69, ch 120, ch 97, ch 99, ch 116, ch 83, ch 116, ch 114, ch 97, ch 105, ch 103, ch 104, ch 116, ch 101, ch 110, ch 83, ch 104, ch 97, ch 114, ch 101, ch 100]
def ocs : List Char := ow0 ++ ch 32 :: (ow1 ++ ch 32 :: (ow2 ++ ch 32 :: (ow3 ++ ch 32 :: (ow4 ++ ch 32 :: (ow5 ++ ch 32 :: (ow6 ++ ch 32 :: (ow7 ++ ch 32 :: (ow8 ++ ch 32 :: (ow9 ++ ch 32 :: (ow10 ++ ch 32 :: (ow11 ++ ch 32 :: (ow12 ++ ch 32 :: (ow13 ++ ch 32 :: (ow14 ++ ch 32 :: (ow15 ++ ch 32 :: (ow16 ++ ch 32 :: (ow17 ++ ch 32 :: (ow18 ++ ch 32 :: (ow19 ++ ch 32 :: (ow20 ++ ch 32 :: (ow21 ++ ch 32 :: (ow22 ++ ch 32 :: (ow23)))))))))))))))))))))))
theorem ows_eq : wordsSigns ocs = [ow0, ow1, ow2, ow3, ow4, ow5, ow6, ow7, ow8, ow9, ow10, ow11, ow12, ow13, ow14, ow15, ow16, ow17, ow18, ow19, ow20, ow21, ow22, ow23] := by
  unfold ocs
  rw [words_step ow0 _ (by kernel_rfl), words_step ow1 _ (by kernel_rfl), words_step ow2 _ (by kernel_rfl), words_step ow3 _ (by kernel_rfl), words_step ow4 _ (by kernel_rfl), words_step ow5 _ (by kernel_rfl), words_step ow6 _ (by kernel_rfl), words_step ow7 _ (by kernel_rfl), words_step ow8 _ (by kernel_rfl), words_step ow9 _ (by kernel_rfl), words_step ow10 _ (by kernel_rfl), words_step ow11 _ (by kernel_rfl), words_step ow12 _ (by kernel_rfl), words_step ow13 _ (by kernel_rfl), words_step ow14 _ (by kernel_rfl), words_step ow15 _ (by kernel_rfl), words_step ow16 _ (by kernel_rfl), words_step ow17 _ (by kernel_rfl), words_step ow18 _ (by kernel_rfl), words_step ow19 _ (by kernel_rfl), words_step ow20 _ (by kernel_rfl), words_step ow21 _ (by kernel_rfl), words_step ow22 _ (by kernel_rfl), words_last ow23 (by kernel_rfl)]
theorem order_lit : Try.checked.prog.initOrder = "harness 8ffefc1f1bf3b4e7fea7274b8fc214ef8a541204f8e93c477bb83d3d07927ae5 cut at loop.example/g01253/laws.FnExactValidChain loop.example/g01253/laws.FnExactMomentumOf loop.example/g01253/laws.FnExactCentreOfChain loop.example/g01253/laws.FnExactEnergyOfChain loop.example/g01253/laws.FnExactRopeChain loop.example/g01253/laws.FnExactNetChain loop.example/g01253/laws.FnExactRodLong loop.example/g01253/laws.FnExactColoursOfRods loop.example/g01253/laws.FnExactWorstRod loop.example/g01253/laws.FnExactTurnBack loop.example/g01253/laws.FnExactHoldWeight loop.example/g01253/laws.FnExactAddRod loop.example/g01253/laws.FnExactAddWeight loop.example/g01253/laws.FnExactMoveChain loop.example/g01253/laws.FnExactKickChain loop.example/g01253/laws.FnExactDropRod loop.example/g01253/laws.FnExactFlyChain loop.example/g01253/laws.FnExactStraightenRod loop.example/g01253/laws.FnExactStraightenAll loop.example/g01253/laws.FnExactStraightenShared" := by kernel_rfl
theorem order_lst : "harness 8ffefc1f1bf3b4e7fea7274b8fc214ef8a541204f8e93c477bb83d3d07927ae5 cut at loop.example/g01253/laws.FnExactValidChain loop.example/g01253/laws.FnExactMomentumOf loop.example/g01253/laws.FnExactCentreOfChain loop.example/g01253/laws.FnExactEnergyOfChain loop.example/g01253/laws.FnExactRopeChain loop.example/g01253/laws.FnExactNetChain loop.example/g01253/laws.FnExactRodLong loop.example/g01253/laws.FnExactColoursOfRods loop.example/g01253/laws.FnExactWorstRod loop.example/g01253/laws.FnExactTurnBack loop.example/g01253/laws.FnExactHoldWeight loop.example/g01253/laws.FnExactAddRod loop.example/g01253/laws.FnExactAddWeight loop.example/g01253/laws.FnExactMoveChain loop.example/g01253/laws.FnExactKickChain loop.example/g01253/laws.FnExactDropRod loop.example/g01253/laws.FnExactFlyChain loop.example/g01253/laws.FnExactStraightenRod loop.example/g01253/laws.FnExactStraightenAll loop.example/g01253/laws.FnExactStraightenShared" = String.ofList ocs := by kernel_rfl
theorem order_eq : Try.checked.prog.initOrder.toList = ocs := by rw [order_lit, order_lst, String.toList_ofList]
theorem cut_is : "cut".toList = cutW := by kernel_rfl
theorem make_cut {P : Program} {rest : List (List Char)} (h : behindMainWord (wordsSigns P.initOrder.toList) = cutW :: rest) : P.make = some .cut := by
  unfold Program.make
  rw [h]
  have e1 : (cutW == "gc".toList || cutW == "spec".toList) = false := by kernel_rfl
  have e2 : (cutW == "cut".toList || cutW == "finals".toList && rest.head? == some "cut".toList) = true := by rw [cut_is]; rfl
  show (if (cutW == "gc".toList || cutW == "spec".toList) = true then some Make.whole else if (cutW == "cut".toList || cutW == "finals".toList && rest.head? == some "cut".toList) = true then some Make.cut else _) = some Make.cut
  rw [e1, if_neg Bool.false_ne_true, e2, if_pos rfl]
theorem strip_cut (rest : List (List Char)) : stripLifts liftWords (cutW :: rest) = ([], cutW :: rest) := by kernel_rfl
theorem lifts_cut {P : Program} {rest : List (List Char)} (h : behindMainWord (wordsSigns P.initOrder.toList) = cutW :: rest) : P.liftsFinal = false := by
  unfold Program.liftsFinal Program.headLifts
  rw [h, strip_cut]
  have e1 : ((cutW :: rest).head? == some "carried".toList) = false := by kernel_rfl
  have e2 : ((cutW :: rest).head? == some "cut".toList) = true := by rw [cut_is]; rfl
  show (((cutW :: rest).head? == some "carried".toList && _) || (if ((cutW :: rest).head? == some "cut".toList) = true then ([] : List String) else []).contains "finals") = false
  rw [e1, e2]
  rfl
theorem enter_cut {P : Program} {rest : List (List Char)} (h : behindMainWord (wordsSigns P.initOrder.toList) = cutW :: rest) (h1 : P.laysLater = false) (h2 : P.bearsReflect = false) (h3 : P.doorFits [] = true) : P.mayEnter = true := by
  unfold Program.mayEnter
  rw [h]
  have e2 : ((cutW :: rest).head? == some "cut".toList) = true := by rw [cut_is]; rfl
  show (_ || _ || ((stripLifts liftWords (cutW :: rest)).2.head? == some "cut".toList &&
      ((stripLifts liftWords (cutW :: rest)).1.contains "finals" || !P.laysLater) && ((stripLifts liftWords (cutW :: rest)).1.contains "reflectrows" || !P.bearsReflect) &&
      ((stripLifts liftWords (cutW :: rest)).1.contains "reflectrows" || !(stripLifts liftWords (cutW :: rest)).1.contains "leanrows") &&
      P.doorFits (stripLifts liftWords (cutW :: rest)).1)) = true
  rw [strip_cut]
  show (_ || _ || ((cutW :: rest).head? == some "cut".toList &&
      (([] : List String).contains "finals" || !P.laysLater) && (([] : List String).contains "reflectrows" || !P.bearsReflect) &&
      (([] : List String).contains "reflectrows" || !([] : List String).contains "leanrows") &&
      P.doorFits [])) = true
  rw [e2, h1, h2, h3]
  simp
theorem words_eq : ∃ rest, behindMainWord (wordsSigns Try.checked.prog.initOrder.toList) = cutW :: rest := ⟨(behindMainWord (wordsSigns ocs)).tail, by rw [order_eq, ows_eq]; kernel_rfl⟩
theorem lays_later : Try.checked.prog.laysLater = false := by kernel_rfl
theorem bears_reflect : Try.checked.prog.bearsReflect = false := by kernel_rfl
theorem door_fits : Try.checked.prog.doorFits [] = true := by kernel_rfl
theorem lifts_final : Try.checked.prog.liftsFinal = false := words_eq.elim fun _ h => lifts_cut h
theorem make_eq : Try.checked.prog.make = some .cut := words_eq.elim fun _ h => make_cut h
theorem may_enter : Try.checked.prog.mayEnter = true := words_eq.elim fun _ h => enter_cut h lays_later bears_reflect door_fits
theorem maps_rowed : mapsRowed Try.checked.prog = true := by kernel_rfl
theorem stops_heard : Try.checked.prog.stopsHeard = true := by kernel_rfl
theorem plain_keys : Try.checked.prog.plainKeys = true := by kernel_rfl
theorem stops_nil : (Try.checked.prog.stops == []) = true := by kernel_rfl
theorem knobs_nil : (Try.checked.prog.stopKnobs == []) = true := by kernel_rfl
theorem laid_outB : laidOutB Try.checked.prog = true := by kernel_rfl
theorem joined_here {f : FuncId} {fn : Func} {s : ChangeSpec} {c : OpenClaim} (k1 : (c.lifted == false) = true) (k2 : (some Make.cut == some c.make) = true) (k3 : (c.plainKeys == true) = true)
    (a1 : (c.wf (OpenSpec.ofChange s)) = true)
    (a4 : (fn.params.all (Try.checked.prog.readableRec ·)) = true)
    (a5 : (namedTie Try.checked.prog c.named s.vars) = true)
    (a6 : ((c.stops == [])) = true)
    (a8 : ((c.knobs == [])) = true)
    (b1 : ((c.inPlace == Try.checked.prog.inPlace f)) = true)
    (b2 : ((c.unfollowed == Try.checked.prog.unfollowed f)) = true)
    (b3 : ((c.recurses == Try.checked.prog.recurses f)) = true)
    (b4 : ((c.named == Try.checked.prog.varsNamed f)) = true)
    (b5 : ((c.maps == (fn.params.toList ++ s.plain.varTypes Try.checked.prog).any (Try.checked.prog.mapsRec ·))) = true)
    (b6 : ((c.ifaces == (fn.params.toList ++ s.plain.varTypes Try.checked.prog).any (Try.checked.prog.ifacesRec ·))) = true)
    (b7 : ((c.mapsOut == Try.checked.prog.mapsAmong fn.resultTypes.toList)) = true)
    (b8 : ((c.loops == (fn.params.toList ++ s.plain.varTypes Try.checked.prog).any (Try.checked.prog.loopsFrom ·))) = true)
    (b9 : ((c.wideKeys == (fn.params.toList ++ s.plain.varTypes Try.checked.prog ++ fn.resultTypes.toList).any (Try.checked.prog.wideKeysFrom ·))) = true)
    (c1 : (s.vars.all (Try.checked.prog.varReadable ·)) = true)
    (c2 : (fn.resultTypes.all (fun t => Try.checked.prog.readableRec t && decide (t < Try.checked.prog.types.size))) = true)
    (c3 : ((c.ifacesOut == fn.resultTypes.toList.any (Try.checked.prog.ifacesRec ·))) = true)
    (c4 : ((c.loopsOut == fn.resultTypes.toList.any (Try.checked.prog.loopsFrom ·))) = true)
    (c6 : (c.shortTexts.isNone) = true)
    (d2 : ((c.kinds == (if c.domain.isEmpty then [] else fn.params.toList.map fun t => match Try.checked.prog.underlying t with | some (.int k) => some k | _ => none))) = true)
    (d3 : ((c.pinned == c.pinnedBy)) = true)
    (d4 : ((c.veiled == (fn.params.toList ++ s.plain.varTypes Try.checked.prog ++ fn.resultTypes.toList).any (Try.checked.prog.veiledRec ·))) = true)
    (d5 : (c.veiledFits Try.checked.prog fn.params.toList (fn.params.toList ++ s.plain.varTypes Try.checked.prog ++ fn.resultTypes.toList)) = true)
    : joinedFacts Try.checked.prog f fn s c = true := by
  have k1' : (c.lifted == Try.checked.prog.liftsFinal) = true := by rw [lifts_final]; exact k1
  have k2' : (Try.checked.prog.make == some c.make) = true := by rw [make_eq]; exact k2
  have k3' : (c.plainKeys == Try.checked.prog.plainKeys) = true := by rw [plain_keys]; exact k3
  exact joined_mk a1 laid_outB maps_rowed a4 a5 a6 stops_nil a8 knobs_nil b1 b2 b3 b4 b5 b6 b7 b8 b9 c1 c2 c3 c4 k3' c6 stops_heard may_enter k1' k2' d2 d3 d4 d5
end Go.Proofs.Ytlhgaihfghobmaa
