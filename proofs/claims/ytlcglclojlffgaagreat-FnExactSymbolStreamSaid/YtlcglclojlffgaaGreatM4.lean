import Derived.Test.YtlcglclojlffgaaGreatM3
import Derived.Test.YtlcglclojlffgaaGreatM0
import Derived.Test.YtlcglclojlffgaaGreatM1
import Derived.Test.YtlcglclojlffgaaGreatM2
namespace Go.Proofs.YtlcglclojlffgaaGreat
open Go.RowKit

set_option maxRecDepth 100000 in
set_option maxHeartbeats 4000000 in
theorem spPDiv_any (F : Fd) (hF : FdR F) (v : Nat) (a1 a2 : Option Addr) (p q : List Nat) (n1 n2 c1 c2 : Nat) (w : World) (e1 : n1 = p.length) (e2 : n2 = q.length) (h1 : IntsAt w a1 (natI p)) (h2 : IntsAt w a2 (natI q)) (hs : Slc a1 (natI p)) (p1 : AllE F p) (q1 : AllE F q) (l1 : p.length ≤ 1000) (l2 : q.length ≤ 1000)
    (q0 : 1 ≤ q.length) (hv : F.IsInv (co q (q.length - 1)) v) :
    Calls Tryz.prog 97 #[fV F, .slice a1 n1 c1, .slice a2 n2 c2] w (RetQR w (pQuo F p q v) (pRem F p q v)) := by
  subst e1 e2
  have H1 := Lib.hid h1
  have H2 := Lib.hid h2
  have HP := Lib.hid p1
  have HQ := Lib.hid q1
  have HV := Lib.hid hv
  have HF := Lib.hid hF
  have hx := push_at w (.cells #[.int .i64 2, .int .i64 (F.k : Int), .int .i64 (F.g : Int)] 30 (0, 0))
  have HB0 := Lib.hid (ba1 w (.cells #[.int .i64 2, .int .i64 (F.k : Int), .int .i64 (F.g : Int)] 30 (0, 0)))
  obtain ⟨w1, hw1⟩ : ∃ w1, w1 = w.alloc (.cells #[.int .i64 2, .int .i64 (F.k : Int), .int .i64 (F.g : Int)] 30 (0, 0)) := ⟨_, rfl⟩
  have HW1 := Lib.hid hw1
  rw [← hw1] at hx HB0
  have HX := Lib.hid hx
  have HLO := Lib.hid (l01Own_any a1 (natI p) c1 w1 (H1.out.below HB0.out) (by rw [natI_len]; omega) hs)
  rw [natI_len] at HLO
  clear h1 h2 p1 q1 hs hx hw1 hF hv
  go_enter Tryz.func97, Tryz.ntmps97
  go_wp2_with fail
  rw [← HW1.out]
  refine HLO.out.mono ?_
  rintro e w2 ⟨a3, c3, rfl, ho3, hb3⟩
  rw [natI_len] at ho3 ⊢
  have HR1 := Lib.hid ho3
  have HB1 := Lib.hid (hb3)
  clear ho3 hb3 HLO
  by_cases hlt : p.length < q.length
  · have hli : (p.length : Int) < (q.length : Int) := by omega
    have HU := Lib.hid (show pQuo F p q v = [] by rw [pQuo, if_pos hlt])
    have HM := Lib.hid (show pRem F p q v = p by rw [pRem, if_pos hlt])
    have hsz := HB0.out.size
    have hsz1 := HB1.out.size
    go_wp2_with fail
    go_ret2
    rw [HU.out, HM.out]
    exact ⟨_, 0, a3, c3, rfl, own_emptyB (by omega) rfl, (HR1.out.grown (ba1 _ _)).weak (by omega), bt0 (HB0.out.trans (HB1.out.mono HB0.out.size)) (ba1 _ _) (by omega)⟩
  · have hli : ¬ (p.length : Int) < (q.length : Int) := by omega
    have HU := Lib.hid (show pQuo F p q v = trimN (quoTo F p q v (p.length - q.length + 1) (p.length - q.length + 1)) by rw [pQuo, if_neg hlt])
    have HM := Lib.hid (show pRem F p q v = trimN (divTo F p q v (p.length - q.length + 1) (p.length - q.length + 1)) by rw [pRem, if_neg hlt])
    obtain ⟨n, hn⟩ : ∃ n : Nat, n = p.length - q.length + 1 := ⟨_, rfl⟩
    rw [← hn] at HU HM
    have hni : (p.length : Int) - (q.length : Int) + 1 = (n : Int) := by omega
    have hn2 : n ≤ 1000 := by omega
    have hn1 : 1 ≤ n := by omega
    have hmk := make_i n (by omega) w2
    have HN := Lib.hid (show p.length + 1 = n + q.length by omega)
    obtain ⟨gr, rfl, hgr1, -, hgr⟩ := HR1.out.block (by rw [natI_len]; omega)
    have HO := Lib.hid ((ownI_made' w2 n (by omega)).weak HB1.out.size)
    have HR2 := Lib.hid (HR1.out.grown (ba1 w2 (.cells (madeCells #[.int .i64 0] n) 2 (0, 0))))
    have HB2 := Lib.hid (bt0 HB1.out (ba1 w2 (.cells (madeCells #[.int .i64 0] n) 2 (0, 0))) (Nat.le_refl _))
    obtain ⟨w3, hw3⟩ : ∃ w3, w3 = w2.alloc (.cells (madeCells #[.int .i64 0] n) 2 (0, 0)) := ⟨_, rfl⟩
    have hgq : w2.heap.size < w3.heap.size := by rw [hw3]; simp
    obtain ⟨gq, hgqe⟩ : ∃ gq : Nat, gq = w2.heap.size := ⟨_, rfl⟩
    rw [← hw3] at hmk HO HR2 HB2
    clear hlt hn
    obtain ⟨b2, o2, e2, hb2, hc2⟩ := co_at ((H2.out.below HB0.out).below HB2.out) (k := q.length - 1) (by omega)
    obtain ⟨m, hm⟩ : ∃ m : Nat, m = q.length - 1 := ⟨_, rfl⟩
    have HV' := Lib.hid (show F.IsInv (co q m) v ∧ co q m < F.q by rw [hm]; exact ⟨HV.out, HQ.out.co HF.out.fit.q3 _⟩)
    rw [← hm] at hc2
    have hmi : (q.length : Int) - 1 = (m : Int) := by omega
    have hm2 : (m : Int) < (q.length : Int) := by omega
    have K := Lib.hid (blkK HB2.out HX.out)
    obtain ⟨hcA, hfA⟩ := heap_cellR K.out
    have hltA := blkLt K.out
    clear hm hw3
    subst e2
    go_wp2_with fail
    refine wp_region_ext_tail 7 (by kernel_rfl) (by kernel_rfl) ?_
    simp only [List.take_succ_cons, List.take_zero, List.drop_succ_cons, List.drop_zero]
    repeat (go_big_quiet_step ((go_at_call 123; go_must (exact calls_ext _ (spInv_any F HF.out _ v HV'.out.2 HV'.out.1 _)))))
    refine wpQuiet_nil ?_
    rintro _ ⟨s, rfl⟩
    have hb4 := s.below
    generalize s.w = w4 at hb4 ⊢
    have HO4 := Lib.hid (HO.out.grown hb4)
    have HR4 := Lib.hid (HR2.out.grown hb4)
    have HB4 := Lib.hid (bt0 HB2.out hb4 (Nat.le_refl _))
    have HG := Lib.hid (show gr < gq by omega)
    have hne : gr ≠ gq := by omega
    rw [← hgqe] at HO4
    rw [← hgqe]
    clear HO HR1 HR2 HB2 hmk K hcA hfA hltA hgqe hgr hgq hb4 hc2 hb2 s
    go_wp2_with fail
    go_loopw [12, 13, 14] (fun i _ _ wr => ∃ k : Nat, k ≤ n ∧ i = .int .i64 ((k : Int) - 1) ∧ OwnI wr w1.heap.size (.slice (some ⟨gr, 0, none⟩) p.length c3) (natI (divTo F p q v n (n - k))) ∧ OwnI wr w1.heap.size (.slice (some ⟨gq, 0, none⟩) n n) (natI (quoTo F p q v n (n - k))) ∧ Below w1.heap.size w1 wr) (fun i _ _ _ => ((intOf i) + 1).toNat)
    case atStart => exact ⟨n, Nat.le_refl _, rfl, by rw [Nat.sub_self]; exact HR4.out, by rw [Nat.sub_self, quoTo, natI_rep]; exact HO4.out, HB4.out⟩
    case round =>
      obtain ⟨k, hk, rfl, hr, ho, hb⟩ := hrel
      have HR := Lib.hid hr
      have HQo := Lib.hid ho
      have HB := Lib.hid hb
      have K := Lib.hid (blkK hb HX.out)
      obtain ⟨hcA, hfA⟩ := heap_cellR K.out
      have hltA := blkLt K.out
      clear hr ho hb
      obtain ⟨wo, rfl⟩ : ∃ wo : World, wo = wr := ⟨_, rfl⟩
      rcases k with - | k
      · have e1 : (((0 : Nat) : Int) - 1) = -1 := by omega
        rw [e1]
        rw [Nat.sub_zero] at HR HQo
        clear e1
        have HL1 := Lib.hid (divTo_len F p q v n n)
        have HL2 := Lib.hid (quoTo_len F p q v n n)
        have HPC := Lib.hid (show p.length ≤ c3 by
          rcases HR.out.2 with ⟨h, _⟩ | ⟨g, cap, cur, h, -, -, hn, -⟩
          · cases h
          · have := Value.slice.inj h; have := divTo_len F p q v n n; rw [natI_len] at hn; omega)
        have HC1 := Lib.hid (cut_own HQo.out)
        have HC2 := Lib.hid (cut_own HR.out)
        have hsz := HB0.out.size
        have hsz1 := HB.out.size
        clear hcA hfA hltA
        go_wp2_with fail
        refine (spTrim_any (some ⟨gq, 0, none⟩) (quoTo F p q v n n) n n _ HL2.out.symm HC1.out.1 (by have := HL2.out; omega) (by have := HL2.out; omega) rfl HC1.out.2).mono ?_
        rintro e w5 ⟨a5, c5, rfl, ho5, hb5⟩
        have HO5 := Lib.hid ho5
        have HB5 := Lib.hid hb5
        clear ho5 hb5
        go_wp2_with fail
        refine (spTrim_any (some ⟨gr, 0, none⟩) (divTo F p q v n n) p.length c3 _ HL1.out.symm (HC2.out.1.below HB5.out) (by have := HL1.out; have := HPC.out; omega) (by have := HL1.out; omega) rfl HC2.out.2).mono ?_
        rintro e w6 ⟨a6, c6, rfl, ho6, hb6⟩
        have HO6 := Lib.hid ho6
        have HB6 := Lib.hid hb6
        have hsz5 := HB5.out.size
        clear ho6 hb6
        go_wp2_with fail
        go_ret2
        rw [HU.out, HM.out]
        exact ⟨a5, c5, a6, c6, by simp only [natI_len]; rfl, by have h := (HO5.out.grown HB6.out).weak (show w.heap.size ≤ wo.heap.size by omega); rwa [natI_len] at h, by have h := HO6.out.weak (show w.heap.size ≤ w5.heap.size by omega); rwa [natI_len] at h, bt0 (bt0 (HB0.out.trans (HB.out.mono hsz)) HB5.out (by omega)) HB6.out (by omega)⟩
      · have e1 : (((k + 1 : Nat) : Int) - 1) = (k : Int) := by omega
        rw [e1]
        clear e1
        obtain ⟨j, hj⟩ : ∃ j : Nat, j = n - (k + 1) := ⟨_, rfl⟩
        have hjk : n - k = j + 1 := by omega
        have hnj : n - 1 - j = k := by omega
        rw [← hj] at HR HQo
        have HJ := Lib.hid hjk
        have HNJ := Lib.hid hnj
        have hkn : (k : Int) < (n : Int) := by omega
        clear hj hjk hnj
        have hpl : (natI (divTo F p q v n j)).length = p.length := by rw [natI_len, divTo_len]
        have hN := HN.out
        have hkm : (k : Int) + (q.length : Int) - 1 = ((k + m : Nat) : Int) := by omega
        have hkm2 : ((k + m : Nat) : Int) < (p.length : Int) := by omega
        obtain ⟨z, hz, hcz, hfz⟩ := HR.out.cellAt (k := k + m) hpl.symm (by omega)
        obtain ⟨z, hz', rfl⟩ := natI_at hz
        have HDA := Lib.hid (divTo_all HF.out.runs HF.out.fit HP.out HQ.out (HV.out.lt HF.out.fit) (n := n) j)
        have HZ := Lib.hid (show co (divTo F p q v n j) (k + q.length - 1) = z by rw [show k + q.length - 1 = k + m by omega]; exact co_some hz')
        have HZL := Lib.hid (show z < F.q from HDA.out z (List.mem_of_getElem? hz'))
        have hgrl := HR.out.hi gr rfl
        clear hz hz' hpl hN
        go_wp2_with fail
        refine wp_region_ext_tail 10 (by kernel_rfl) (by kernel_rfl) ?_
        simp only [List.take_succ_cons, List.take_zero, List.drop_succ_cons, List.drop_zero]
        repeat (go_big_quiet_step ((go_at_call 117; go_must (exact calls_ext _ (spMulR_any F HF.out.toFdB z v HZL.out (HV.out.lt HF.out.fit) _)))))
        refine wpQuiet_nil ?_
        rintro _ ⟨s, rfl⟩
        have hb4 := s.below
        generalize s.w = w4 at hb4 ⊢
        have HXL := Lib.hid (F.mul_lt HF.out.runs HF.out.fit HZL.out (HV.out.lt HF.out.fit))
        obtain ⟨x, hx⟩ : ∃ x, x = F.mul z v := ⟨_, rfl⟩
        rw [← hx] at HXL ⊢
        have HX2 := Lib.hid hx
        have hql2 : (natI (quoTo F p q v n j)).length = n := by rw [natI_len, quoTo_len]
        have HR4 := Lib.hid (HR.out.grown hb4)
        have HQ4 := Lib.hid (HQo.out.grown hb4)
        have HB4 := Lib.hid (bt0 HB.out hb4 (Nat.le_refl _))
        obtain ⟨zq, -, hcq, hfq⟩ := HQ4.out.cellAt (k := k) hql2.symm (by omega)
        have HQ5 := Lib.hid (show OwnI (w4.setCell ⟨gq, k, none⟩ (.int .i64 (x : Nat))) w1.heap.size (.slice (some ⟨gq, 0, none⟩) n n) (natI (quoTo F p q v n (j + 1))) by
          have h := (HQ4.out.stored hql2.symm k (x : Int)).1
          rw [quoTo, HNJ.out, HZ.out, ← HX2.out, natI_set]
          exact h)
        have HR5 := Lib.hid (HR4.out.other (grownBy_set w4 gq k (.int .i64 (x : Nat))) (fun k hk e => by cases hk; exact hne (Option.some.inj e).symm))
        have HB5 := Lib.hid (HB4.out.setCell (p := ⟨gq, k, none⟩) (HQ4.out.lo gq rfl) (.int .i64 (x : Nat)))
        clear hb4 hx hql2 hcz hfz hcA hfA hltA s
        have HD := Lib.hid (show divTo F p q v n (j + 1) = rowSub F (divTo F p q v n j) k x q q.length by
            rw [divTo, HNJ.out, HZ.out, ← HX2.out])
        go_wp2_with fail
        go_loopw [14] (fun i wr => ∃ i' : Nat, i' ≤ q.length ∧ i = .int .i64 i' ∧ OwnI wr w1.heap.size (.slice (some ⟨gr, 0, none⟩) p.length c3) (natI (rowSub F (divTo F p q v n j) k x q i')) ∧ OwnI wr w1.heap.size (.slice (some ⟨gq, 0, none⟩) n n) (natI (quoTo F p q v n (j + 1))) ∧ Below w1.heap.size w1 wr) (fun i _ => q.length - (intOf i).toNat)
        case atStart => exact ⟨0, Nat.zero_le _, rfl, HR5.out, HQ5.out, HB5.out⟩
        case round =>
          obtain ⟨i, hi, rfl, hr, ho, hb⟩ := hrel
          have HR6 := Lib.hid hr
          have HQ6 := Lib.hid ho
          have HB6 := Lib.hid hb
          clear hr ho hb hcq hfq
          by_cases hil : i < q.length
          · obtain ⟨b3, o3, e3, hb3, hc3⟩ := co_at ((H2.out.below HB0.out).below HB6.out) hil
            simp only [Option.some.injEq, Addr.mk.injEq, and_true] at e3
            obtain ⟨rfl, rfl⟩ := e3
            have hii : (i : Int) < (q.length : Int) := by omega
            have HY := Lib.hid (show co q i < F.q from HQ.out.co HF.out.fit.q3 i)
            have hlen : (natI (rowSub F (divTo F p q v n j) k x q i)).length = p.length := by rw [natI_len, rowSub_len, divTo_len]
            have hN := HN.out
            obtain ⟨y, hy, hcy, hfy⟩ := HR6.out.cellAt (k := k + i) hlen.symm (by omega)
            obtain ⟨y, hy', rfl⟩ := natI_at hy
            have HYc := Lib.hid (co_some hy')
            have HYL := Lib.hid (show y < F.q from (rowSub_all HF.out.runs HF.out.fit HDA.out HQ.out HXL.out i) y (List.mem_of_getElem? hy'))
            have HLEN := Lib.hid hlen
            have hki : (k : Int) + (i : Int) < (p.length : Int) := by omega
            have hki2 : IntKind.i64.wrap ((k : Int) + (i : Int)) = ((k + i : Nat) : Int) := by rw [wraps64 _ (by omega) (by omega)]; push_cast; rfl
            have hwr : gr < wr.heap.size := HR6.out.hi _ rfl
            have K6 := Lib.hid (blkK HB6.out HX.out)
            obtain ⟨hcA, hfA⟩ := heap_cellR K6.out
            have hltA := blkLt K6.out
            clear hy hy' hlen hN
            go_wp2_with fail
            refine wp_region_ext_tail 21 (by kernel_rfl) (by kernel_rfl) ?_
            simp only [List.take_succ_cons, List.take_zero, List.drop_succ_cons, List.drop_zero]
            repeat (go_big_quiet_step ((first
              | (go_at_call 117; go_must (exact calls_ext _ (spMulR_any F HF.out.toFdB _ _ HXL.out HY.out _)))
              | (go_at_call 100; go_must (exact calls_ext _ (spNeg_any F HF.out.toFdB (F.mul x (co q i)) _)))
              | (go_at_call 124; go_must (exact calls_ext _ (spAdd_any F HF.out.toFdB _ _ HYL.out (F.neg_lt (F.mul_lt HF.out.runs HF.out.fit HXL.out HY.out)) _))))))
            refine wpQuiet_nil ?_
            rintro _ ⟨s, rfl⟩
            go_wp2_with fail
            refine ⟨⟨i + 1, by omega, by go_num, ?_, ?_, (bt0 HB6.out s.below (Nat.le_refl _)).setCell (HR6.out.lo gr rfl) _⟩, by simp [intOf]; omega⟩
            · have h1 := ((HR6.out.grown s.below).stored HLEN.out.symm (k + i) ((F.add y (F.neg (F.mul x (co q i))) : Nat) : Int)).1
              rw [rowSub, natI_set, HYc.out]
              exact h1
            · exact (HQ6.out.grown s.below).other (grownBy_set s.w gr (k + i) _) (fun k hk e => by cases hk; exact hne (Option.some.inj e))
          · obtain rfl : i = q.length := by omega
            have hii : ¬ ((q.length : Nat) : Int) < (q.length : Int) := by omega
            go_wp2_with fail
            exact ⟨⟨k, by omega, rfl, by rw [HJ.out, HD.out]; exact HR6.out, by rw [HJ.out]; exact HQ6.out, HB6.out⟩, by simp [intOf]⟩

end Go.Proofs.YtlcglclojlffgaaGreat
namespace Go.Proofs.YtlcglclojlffgaaGreat
open Go.RowKit

/-! A region that draws its order and holds one operation (number c) that changes what is said of the world: it is met once. It may leave by a panic. -/
variable {P : Program} {ops : Array Oper} {Q : Exit → Act → World → Prop}

/-- operation i waits for operation j, perhaps by way of others -/
def waits (ops : Array Oper) : Nat → Nat → Nat → Bool
  | 0, _, _ => false
  | f + 1, i, j => match ops[i]? with
    | none => false
    | some o => o.after.any fun e => Region.binds .any e && (e.on == j || waits ops f e.on j)
def rgOkO (ops : Array Oper) (m : Nat) (ds : List Nat) (sup : Nat → List Nat) : Bool :=
  (List.range ops.size).all fun j => match ops[j]? with
    | none => true
    | some o =>
      (decide (m ≤ j) || ((match o.dst with | some d => ds.contains d | none => true) &&
        (sup j).all fun t => (List.range ops.size).all fun i => match ops[i]? with
          | none => true
          | some oi => oi.dst != some t || i == j || o.after.any fun e => Region.binds .any e && e.on == i)) &&
      (decide (j < m) || (List.range j).all (fun i => waits ops ops.size j i)) && o.after.all fun e => !Region.binds .any e || decide (e.on < j)
theorem waits_first {f i j : Nat} {o : Oper} (ho : ops[i]? = some o) (h : waits ops f i j = true) : ∃ e ∈ o.after, Region.binds .any e = true ∧ (e.on = j ∨ ∃ f', waits ops f' e.on j = true) := by
  cases f with
  | zero => simp [waits] at h
  | succ f =>
    rw [waits, ho] at h
    obtain ⟨e, he, hee⟩ := Array.any_eq_true'.1 h
    simp only [Bool.and_eq_true, Bool.or_eq_true, beq_iff_eq] at hee
    exact ⟨e, he, hee.1, hee.2.imp id (fun h => ⟨f, h⟩)⟩
theorem waits_lt {m : Nat} {ds : List Nat} {sup : Nat → List Nat} (hB : rgOkO ops m ds sup = true) : ∀ (f i j : Nat), waits ops f i j = true → j < i
  | 0, i, j, h => by simp [waits] at h
  | f + 1, i, j, h => by
    cases ho : ops[i]? with
    | none => rw [waits, ho] at h; cases h
    | some o =>
      rw [waits, ho] at h
      obtain ⟨e, he, hee⟩ := Array.any_eq_true'.1 h
      simp only [Bool.and_eq_true, Bool.or_eq_true, beq_iff_eq] at hee
      have hlt : i < ops.size := (Array.getElem?_eq_some_iff.1 ho).1
      have := List.all_eq_true.1 hB i (List.mem_range.2 hlt)
      simp only [ho, Bool.and_eq_true] at this
      have h2 := Array.all_eq_true'.1 this.2 e he
      simp only [hee.1, Bool.not_true, Bool.or_eq_true, Bool.false_eq_true, false_or, decide_eq_true_eq] at h2
      rcases hee.2 with h3 | h3
      · omega
      · have := waits_lt hB f e.on j h3
        omega
theorem waits_listed {L : Nat → Bool} (hc : ∀ j o, ops[j]? = some o → L j = true → ∀ e ∈ o.after, Region.binds .any e = true → L e.on = true) : ∀ (f i j : Nat), waits ops f i j = true → L i = true → L j = true
  | 0, i, j, h, _ => by simp [waits] at h
  | f + 1, i, j, h, hi => by
    cases ho : ops[i]? with
    | none => rw [waits, ho] at h; cases h
    | some o =>
      rw [waits, ho] at h
      obtain ⟨e, he, hee⟩ := Array.any_eq_true'.1 h
      simp only [Bool.and_eq_true, Bool.or_eq_true, beq_iff_eq] at hee
      have h1 := hc i o ho hi e he hee.1
      rcases hee.2 with h3 | h3
      · rw [← h3]; exact h1
      · exact waits_listed hc f e.on j h3 h1

/-- the tail, in its one order -/
theorem wpAny_tailO {m : Nat} {ds : List Nat} {sup : Nat → List Nat} (hB : rgOkO ops m ds sup = true) : ∀ (r k : Nat) (listed : Array Bool) (a : Act) (w : World), m ≤ k → k + r = ops.size →
    (∀ j, j < ops.size → listed.getD j true = decide (j < k)) → listed.size = ops.size → ∀ fuel, r ≤ fuel → wpOps P ops Q (List.range' k r) a w → wpAny P .any ops Q fuel listed a w
  | 0, k, listed, a, w, hm, hk, hl, hs, fuel, hf, h => by
    have hr : Region.ready .any ops listed = [] := by
      rw [List.eq_nil_iff_forall_not_mem]
      intro j hj
      obtain ⟨h1, o, ho, _⟩ := mem_ready.1 hj
      have hlt : j < ops.size := (Array.getElem?_eq_some_iff.1 ho).1
      rw [hl j hlt] at h1
      simp at h1; omega
    have hq : Q .normal a w := h
    cases fuel with
    | zero => exact ⟨hr, hq⟩
    | succ f => exact ⟨fun _ => hq, fun i hi => by rw [hr] at hi; cases hi⟩
  | r + 1, k, listed, a, w, hm, hk, hl, hs, fuel, hf, h => by
    have hkn : k < ops.size := by omega
    have hready : ∀ j ∈ Region.ready .any ops listed, j = k := by
      intro j hj
      obtain ⟨h1, o, ho, hdep⟩ := mem_ready.1 hj
      have hlt : j < ops.size := (Array.getElem?_eq_some_iff.1 ho).1
      rw [hl j hlt] at h1
      have hjk : k ≤ j := by simpa using h1
      rcases Nat.lt_or_ge k j with hlt' | hge
      · exfalso
        have hb := List.all_eq_true.1 hB j (List.mem_range.2 hlt)
        simp only [ho, Bool.and_eq_true, Bool.or_eq_true, decide_eq_true_eq] at hb
        rcases hb.1.2 with hb2 | hb2
        · omega
        · have := List.all_eq_true.1 hb2 k (List.mem_range.2 hlt')
          obtain ⟨e, he, hbind, hee⟩ := waits_first ho this
          have hd := hdep e he hbind
          have hek : e.on = k := by
            rcases hee with h | ⟨f', h⟩
            · exact h
            · exfalso
              have h4 := waits_lt hB f' e.on k h
              have h5 : e.on < ops.size := by
                have := List.all_eq_true.1 hB j (List.mem_range.2 hlt)
                simp only [ho, Bool.and_eq_true] at this
                have h2 := Array.all_eq_true'.1 this.2 e he
                simp only [hbind, Bool.not_true, Bool.or_eq_true, Bool.false_eq_true, false_or, decide_eq_true_eq] at h2
                omega
              have h6 := hl e.on h5
              rw [getD_toList] at h6 hd
              rw [List.getD_eq_getElem?_getD] at h6 hd
              cases hx : listed.toList[e.on]? with
              | none => rw [hx] at hd; simp at hd
              | some b => rw [hx] at h6 hd; simp at h6 hd; rw [hd] at h6; simp at h6; omega
          rw [hek] at hd
          have := hl k hkn
          rw [getD_toList] at this hd
          rw [List.getD_eq_getElem?_getD] at this hd
          cases hx : listed.toList[k]? with
          | none => rw [hx] at hd; simp at hd
          | some b => rw [hx] at this hd; simp at this hd; rw [this] at hd; cases hd
      · omega
    cases fuel with
    | zero => omega
    | succ f =>
      refine ⟨fun h0 => ?_, fun i hi => ?_⟩
      · exfalso
        obtain ⟨o, ho⟩ : ∃ o, ops[k]? = some o := ⟨ops[k], Array.getElem?_eq_getElem hkn⟩
        have : k ∈ Region.ready .any ops listed := by
          refine mem_ready.2 ⟨?_, o, ho, ?_⟩
          · rw [hl k hkn]; simp
          · intro e he hbind
            have hb := List.all_eq_true.1 hB k (List.mem_range.2 hkn)
            simp only [ho, Bool.and_eq_true, Bool.or_eq_true, decide_eq_true_eq] at hb
            · have h2 := Array.all_eq_true'.1 hb.2 e he
              simp only [hbind, Bool.not_true, Bool.or_eq_true, Bool.false_eq_true, false_or, decide_eq_true_eq] at h2
              have := hl e.on (by omega)
              rw [getD_toList, List.getD_eq_getElem?_getD] at this ⊢
              cases hx : listed.toList[e.on]? with
              | none =>
                have := List.getElem?_eq_none_iff.1 hx
                simp [hs] at this; omega
              | some b => rw [hx] at this; simp at this; simp [this]; exact h2
        rw [h0] at this; cases this
      · obtain rfl := hready i hi
        rw [List.range'_succ, wpOps_cons] at h
        refine wpOp_mono (fun a' w' h' => ?_) h
        refine wpAny_tailO hB r (i + 1) _ a' w' (by omega) (by omega) ?_ (by simpa using hs) f (by omega) h'
        intro j hj
        by_cases e : i = j
        · subst e
          rw [getD_toList, Array.toList_setIfInBounds, List.getD_eq_getElem?_getD, List.getElem?_set]
          simp [hs, hj]
        · rw [getD_toList, Array.toList_setIfInBounds, List.getD_eq_getElem?_getD, List.getElem?_set, if_neg e, ← List.getD_eq_getElem?_getD, ← getD_toList, hl j hj]
          simp; omega


/-- what stands while the head is under way -/
structure UnderO (ops : Array Oper) (m : Nat) (a0 : Act) (ds : List Nat) (G : Nat → (Nat → Value) → World → Prop) (St : (Nat → Bool) → World → Prop) (listed : Array Bool) (a : Act) (w : World) : Prop where
  size : listed.size = ops.size
  tail : ∀ j, m ≤ j → j < ops.size → listed.getD j true = false
  closed : ∀ j o, ops[j]? = some o → listed.getD j false = true → ∀ e ∈ o.after, Region.binds .any e = true → listed.getD e.on false = true
  st : St (fun j => listed.getD j false) w
  left : ∃ us, a = over a0 ds us ∧ ∀ j, j < m → listed.getD j false = true → G j us w

/-- what one operation of the head owes: IN EVERY FRAME AND WORLD in which what it waits for stands, it leaves what is said of it, and does away with nothing -/
def OwesO (P : Program) (ops : Array Oper) (Q : Exit → Act → World → Prop) (a0 : Act) (ds : List Nat) (G : Nat → (Nat → Value) → World → Prop) (St : (Nat → Bool) → World → Prop) (Keep : World → World → Prop) (i : Nat) (o : Oper) : Prop :=
  ∀ (us : Nat → Value) (w : World) (L : Nat → Bool), L i = false → St L w → (∀ e ∈ o.after, Region.binds .any e = true → L e.on = true ∧ G e.on us w) →
    if Region.wanted o (yielded ops (over a0 ds us).tmps) then o.wp P (over a0 ds us) w (fun a' w' => ∃ v, a' = (over a0 ds us).put o.dst v ∧ St (fun j => L j || i == j) w' ∧ Keep w w' ∧ G i (upd us o.dst v) w') Q
    else St (fun j => L j || i == j) w ∧ G i (upd us o.dst undef) w

theorem wpAny_headO {m : Nat} {a0 : Act} {ds : List Nat} {sup : Nat → List Nat} {G : Nat → (Nat → Value) → World → Prop} {St : (Nat → Bool) → World → Prop} {Keep : World → World → Prop} (hB : rgOkO ops m ds sup = true) (hm : m ≤ ops.size)
    (hkeep : ∀ j us w w', j < m → Keep w w' → G j us w → G j us w') (hrefl : ∀ w, Keep w w) (hsup : ∀ j us us' w, j < m → (∀ t ∈ sup j, us t = us' t) → G j us w → G j us' w)
    (howe : ∀ i o, i < m → ops[i]? = some o → OwesO P ops Q a0 ds G St Keep i o)
    (hend : ∀ us w L, (∀ j, j < m → L j = true) → St L w → (∀ j, j < m → G j us w) → wpOps P ops Q (List.range' m (ops.size - m)) (over a0 ds us) w) :
    ∀ (fuel : Nat) (listed : Array Bool) (a : Act) (w : World), unl listed.toList ≤ fuel → UnderO ops m a0 ds G St listed a w → wpAny P .any ops Q fuel listed a w := by
  have hdepOk : ∀ j o, j < m → ops[j]? = some o → (∀ d, o.dst = some d → ds.contains d = true) ∧ ∀ t ∈ sup j, ∀ i oi, ops[i]? = some oi → oi.dst = some t → i = j ∨ ∃ e ∈ o.after, Region.binds .any e = true ∧ e.on = i := by
    intro j o hj ho
    have hlt : j < ops.size := (Array.getElem?_eq_some_iff.1 ho).1
    have hb := List.all_eq_true.1 hB j (List.mem_range.2 hlt)
    simp only [ho, Bool.and_eq_true, Bool.or_eq_true, decide_eq_true_eq] at hb
    rcases hb.1.1 with h | h
    · omega
    · refine ⟨?_, ?_⟩
      · intro d hd
        have := h.1
        rw [hd] at this
        exact this
      · intro t ht i oi hi hd
        have h2 := List.all_eq_true.1 (List.all_eq_true.1 h.2 t ht) i (List.mem_range.2 (Array.getElem?_eq_some_iff.1 hi).1)
        simp only [hi, Bool.or_eq_true, bne_iff_ne, beq_iff_eq, hd] at h2
        rcases h2 with (h2 | h2) | h2
        · exact absurd rfl h2
        · exact Or.inl h2
        · obtain ⟨e, he, hee⟩ := Array.any_eq_true'.1 h2
          simp only [Bool.and_eq_true, beq_iff_eq] at hee
          exact Or.inr ⟨e, he, hee.1, hee.2⟩
  have step : ∀ (fuel : Nat) (listed : Array Bool) (a : Act) (w : World), unl listed.toList ≤ fuel → UnderO ops m a0 ds G St listed a w →
      (∀ j, j < m → listed.getD j true = true) → wpAny P .any ops Q fuel listed a w := by
    intro fuel listed a w hf U hall
    obtain ⟨us, rfl, hG⟩ := U.left
    have hx : ∀ j, j < m → listed.getD j false = true := by
      intro j hj
      have := hall j hj
      rw [getD_toList, List.getD_eq_getElem?_getD] at this ⊢
      cases hy : listed.toList[j]? with
      | none =>
        have h1 := List.getElem?_eq_none_iff.1 hy
        have := U.size
        simp at h1; omega
      | some b => rw [hy] at this; simpa using this
    have hr : ops.size - m ≤ fuel := by
      refine Nat.le_trans ?_ hf
      have : ∀ (n : Nat) (l : List Bool), (∀ j, n ≤ j → j < l.length → l.getD j true = false) → l.length - n ≤ unl l := by
        intro n l
        induction l generalizing n with
        | nil => intro _; simp
        | cons b r ih =>
          intro hb
          cases n with
          | zero =>
            have h0 := hb 0 (Nat.le_refl _) (by simp)
            have h1 := ih 0 (fun j _ hj => by have := hb (j + 1) (by omega) (by simpa using hj); simpa using this)
            simp at h0
            subst h0
            simp [unl] at h1 ⊢; omega
          | succ n =>
            have h1 := ih n (fun j hj hj' => by have := hb (j + 1) (by omega) (by simpa using hj'); simpa using this)
            simp only [unl, List.length_cons]; omega
      have h2 := this m listed.toList (fun j hj hj' => by rw [← getD_toList]; exact U.tail j hj (by have := U.size; simp at hj'; omega))
      have := U.size
      simp at h2; omega
    refine wpAny_tailO hB (ops.size - m) m listed _ w (Nat.le_refl _) (by omega) ?_ U.size fuel hr (hend us w _ hx U.st (fun j hj => hG j hj (hx j hj)))
    intro j hj
    rcases Nat.lt_or_ge j m with h | h
    · rw [hall j h]; simp [h]
    · rw [U.tail j h hj]; simp; omega
  intro fuel
  induction fuel with
  | zero =>
    intro listed a w hf U
    exact step 0 listed a w hf U (fun j _ => by rw [getD_toList]; exact unl_zero _ (by omega) j)
  | succ fuel ih =>
    intro listed a w hf U
    by_cases hall : ∀ j, j < m → listed.getD j true = true
    · exact step _ listed a w hf U hall
    · obtain ⟨us, rfl, hG⟩ := U.left
      have hnot : ∃ j, j < m ∧ listed.getD j true = false := by
        apply Classical.byContradiction
        intro hn
        apply hall
        intro j hj
        cases hx : listed.getD j true with
        | true => rfl
        | false => exact absurd ⟨j, hj, hx⟩ hn
      refine ⟨fun h0 => ?_, fun i hi => ?_⟩
      · -- the least that is not listed may come up
        have least : ∀ n j, j ≤ n → j < m → listed.getD j true = false → False := by
          intro n
          induction n with
          | zero =>
            intro j hj hjm hjl
            obtain rfl : j = 0 := by omega
            obtain ⟨oj, hoj⟩ : ∃ oj, ops[0]? = some oj := ⟨ops[0], Array.getElem?_eq_getElem (by omega)⟩
            have : 0 ∈ Region.ready .any ops listed := mem_ready.2 ⟨hjl, oj, hoj, fun e he hbind => by
              have hb := List.all_eq_true.1 hB 0 (List.mem_range.2 (by omega))
              simp only [hoj, Bool.and_eq_true] at hb
              have h2 := Array.all_eq_true'.1 hb.2 e he
              simp only [hbind, Bool.not_true, Bool.or_eq_true, Bool.false_eq_true, false_or, decide_eq_true_eq] at h2
              omega⟩
            rw [h0] at this; cases this
          | succ n ihn =>
            intro j hj hjm hjl
            obtain ⟨oj, hoj⟩ : ∃ oj, ops[j]? = some oj := ⟨ops[j], Array.getElem?_eq_getElem (by omega)⟩
            have : j ∈ Region.ready .any ops listed := mem_ready.2 ⟨hjl, oj, hoj, fun e he hbind => by
              have hb := List.all_eq_true.1 hB j (List.mem_range.2 (by omega))
              simp only [hoj, Bool.and_eq_true] at hb
              have h2 := Array.all_eq_true'.1 hb.2 e he
              simp only [hbind, Bool.not_true, Bool.or_eq_true, Bool.false_eq_true, false_or, decide_eq_true_eq] at h2
              cases hx : listed.getD e.on true with
              | false => exact (ihn e.on (by omega) (by omega) hx).elim
              | true =>
                rw [getD_toList, List.getD_eq_getElem?_getD] at hx ⊢
                cases hy : listed.toList[e.on]? with
                | none =>
                  have h4 := List.getElem?_eq_none_iff.1 hy
                  have := U.size
                  simp at h4; omega
                | some b => rw [hy] at hx; simpa using hx⟩
            rw [h0] at this; cases this
        obtain ⟨j, hj, hjl⟩ := hnot
        exact (least j j (Nat.le_refl _) hj hjl).elim
      · obtain ⟨h1, o, ho, hdep⟩ := mem_ready.1 hi
        have hlt : i < ops.size := (Array.getElem?_eq_some_iff.1 ho).1
        have him : i < m := by
          rcases Nat.lt_or_ge i m with h | h
          · exact h
          · exfalso
            obtain ⟨j, hj, hjl⟩ := hnot
            have hb := List.all_eq_true.1 hB i (List.mem_range.2 hlt)
            simp only [ho, Bool.and_eq_true, Bool.or_eq_true, decide_eq_true_eq] at hb
            rcases hb.1.2 with hb2 | hb2
            · omega
            · have := List.all_eq_true.1 hb2 j (List.mem_range.2 (by omega))
              obtain ⟨e, he, hbind, hee⟩ := waits_first ho this
              have hd0 := hdep e he hbind
              have hd : listed.getD j false = true := by
                rcases hee with h | ⟨f', h⟩
                · rw [← h]; exact hd0
                · exact waits_listed (L := fun j => listed.getD j false) U.closed f' e.on j h hd0
              rw [getD_toList, List.getD_eq_getElem?_getD] at hd hjl
              cases hx : listed.toList[j]? with
              | none => rw [hx] at hd; simp at hd
              | some b => rw [hx] at hd hjl; simp at hd hjl; rw [hd] at hjl; cases hjl
        obtain ⟨hds, hdp⟩ := hdepOk i o him ho
        have hil : listed.toList[i]? = some false := by
          rw [getD_toList, List.getD_eq_getElem?_getD] at h1
          cases hx : listed.toList[i]? with
          | none => rw [hx] at h1; simp at h1
          | some b => rw [hx] at h1; simp at h1; rw [h1]
        have hdm : ∀ e ∈ o.after, Region.binds .any e = true → e.on < m := by
          intro e he hbind
          have hd := hdep e he hbind
          rcases Nat.lt_or_ge e.on m with h | h
          · exact h
          · exfalso
            rcases Nat.lt_or_ge e.on ops.size with h2 | h2
            · have := U.tail e.on h h2
              rw [getD_toList, List.getD_eq_getElem?_getD] at this hd
              cases hx : listed.toList[e.on]? with
              | none => rw [hx] at hd; simp at hd
              | some b => rw [hx] at hd this; simp at hd this; rw [hd] at this; cases this
            · rw [getD_toList, List.getD_eq_getElem?_getD, List.getElem?_eq_none (by have := U.size; simp; omega)] at hd
              simp at hd
        have hcb : (fun j => (listed.setIfInBounds i true).getD j false) = (fun j => listed.getD j false || i == j) := by
          funext c
          by_cases ec : i = c
          · subst ec
            rw [getD_toList, Array.toList_setIfInBounds, List.getD_eq_getElem?_getD, List.getElem?_set, if_pos rfl]
            have := (List.getElem?_eq_some_iff.1 hil).1
            rw [if_pos this]; simp
          · rw [getD_set_other ec]; simp [ec]
        have next : ∀ v w', St (fun j => listed.getD j false || i == j) w' → Keep w w' → G i (upd us o.dst v) w' → wpAny P .any ops Q fuel (listed.setIfInBounds i true) ((over a0 ds us).put o.dst v) w' := by
          intro v w' hst hk hg
          refine ih _ _ _ ?_ ⟨by simpa using U.size, ?_, ?_, by rw [hcb]; exact hst, upd us o.dst v, over_put hds, ?_⟩
          · have := unl_set listed.toList i hil
            rw [Array.toList_setIfInBounds]; omega
          · intro j hj hj'
            rw [getD_set_other (by omega)]; exact U.tail j hj hj'
          · intro j oj hoj hlj e he hbind
            by_cases ej : i = j
            · subst ej
              rw [ho] at hoj
              cases hoj
              exact getD_set_true (hdep e he hbind)
            · rw [getD_set_other ej] at hlj
              exact getD_set_true (U.closed j oj hoj hlj e he hbind)
          · intro j hj hlj
            by_cases ej : i = j
            · subst ej; exact hg
            · rw [getD_set_other ej] at hlj
              refine hsup j us _ w' hj (fun t ht => ?_) (hkeep j us w w' hj hk (hG j hj hlj))
              symm
              refine upd_ne (fun hd => ?_)
              have hjs : j < ops.size := by omega
              obtain ⟨oj, hoj⟩ : ∃ oj, ops[j]? = some oj := ⟨ops[j], Array.getElem?_eq_getElem hjs⟩
              rcases (hdepOk j oj hj hoj).2 t ht i o ho hd with h | ⟨e, he, hbind, heq⟩
              · exact ej h
              · have := U.closed j oj hoj hlj e he hbind
                rw [heq, getD_toList, List.getD_eq_getElem?_getD, hil] at this
                simp at this
        have howes := howe i o him ho us w (fun j => listed.getD j false) (by rw [getD_toList, List.getD_eq_getElem?_getD, hil]; rfl) U.st (fun e he hbind => ⟨hdep e he hbind, hG e.on (hdm e he hbind) (hdep e he hbind)⟩)
        unfold wpOp
        rw [ho]
        simp only
        by_cases hw : Region.wanted o (yielded ops (over a0 ds us).tmps) = true
        · rw [if_pos hw] at howes ⊢
          refine Or.inl (Oper.wp_mono (fun a' w' h => ?_) howes)
          obtain ⟨v, rfl, hst, hk, hg⟩ := h
          exact next v w' hst hk hg
        · rw [if_neg hw] at howes ⊢
          exact next undef w howes.1 (hrefl w) howes.2


/-- the head's operations, one by one, each by its own walk -/
def rsAllO (P : Program) (l : List Oper) (Q : Exit → Act → World → Prop) (A : (Nat → Value) → Act) {Keep : World → World → Prop} (sp : List (Sp Keep)) (St : (Nat → Bool) → World → Prop) : Nat → List Oper → List (Sp Keep) → Prop
  | i, o :: r, s :: t => (∀ (us : Nat → Value) (w : World) (L : Nat → Bool), L i = false → St L w → (∀ e ∈ o.after, Region.binds .any e = true → L e.on = true ∧ depHolds l sp us w e.on) →
      Region.wanted o (yielded l.toArray (A us).tmps) = true ∧ o.wp P (A us) w (fun a' w' => ∃ v, a' = (A us).put o.dst v ∧ St (fun j => L j || i == j) w' ∧ Keep w w' ∧ s.holds v w') Q) ∧ rsAllO P l Q A sp St (i + 1) r t
  | _, _, _ => True

theorem rsAllO_at {P : Program} {l : List Oper} {Q : Exit → Act → World → Prop} {A : (Nat → Value) → Act} {Keep : World → World → Prop} {sp : List (Sp Keep)} {St : (Nat → Bool) → World → Prop} : ∀ (r : List Oper) (t : List (Sp Keep)) (k : Nat), rsAllO P l Q A sp St k r t → ∀ (i : Nat) (o : Oper) (s : Sp Keep), r[i]? = some o → t[i]? = some s →
    ∀ (us : Nat → Value) (w : World) (L : Nat → Bool), L (k + i) = false → St L w → (∀ e ∈ o.after, Region.binds .any e = true → L e.on = true ∧ depHolds l sp us w e.on) →
      Region.wanted o (yielded l.toArray (A us).tmps) = true ∧ o.wp P (A us) w (fun a' w' => ∃ v, a' = (A us).put o.dst v ∧ St (fun j => L j || (k + i) == j) w' ∧ Keep w w' ∧ s.holds v w') Q
  | [], _, _, _, i, o, s, h, _ => by simp at h
  | o' :: r, [], _, _, i, o, s, _, h => by simp at h
  | o' :: r, s' :: t, k, hall, 0, o, s, h, h2 => by
    simp at h h2; subst h; subst h2; exact hall.1
  | o' :: r, s' :: t, k, hall, i + 1, o, s, h, h2 => by
    have := rsAllO_at r t (k + 1) hall.2 i o s (by simpa using h) (by simpa using h2)
    rw [show k + 1 + i = k + (i + 1) by omega] at this
    exact this

/-- **A REGION THAT DRAWS ITS ORDER, one operation of which (number c) is met once and may panic.** -/
theorem wp_region_once {P : Program} {id : Nat} {l : List Oper} {Q : Exit → Act → World → Prop} {a0 : Act} {w0 : World} (ds : List Nat) (A : (Nat → Value) → Act) {Keep : World → World → Prop} (sp : List (Sp Keep)) (St : (Nat → Bool) → World → Prop)
    (hmix : P.follows .mixedOrders = true) (hB : rgOkO l.toArray sp.length ds (supOf l) = true) (hm : sp.length ≤ l.length) (hA : ∀ us, over a0 ds us = A us) (h0 : St (fun _ => false) w0.drew) (hrefl : ∀ w, Keep w w)
    (hall : rsAllO P l Q A sp St 0 (l.take sp.length) sp)
    (hend : ∀ us w L, (∀ j, j < sp.length → L j = true) → St L w → (∀ j, j < sp.length → depHolds l sp us w j) → wpList P l.toArray Q (l.drop sp.length) (A us) w) : (Code.region id l.toArray true).wp P Q a0 w0 := by
  refine wp_region_any hmix ?_
  refine wpAny_headO (a0 := a0) (ds := ds) (G := fun i us w => depHolds l sp us w i) (St := St) (Keep := Keep) hB (by simpa using hm) (fun j us w w' _ hk h => depHolds_kept hk h) hrefl (fun j us us' w _ he h => depHolds_sup he h) ?_ ?_ _ _ _ _ (by rw [Array.toList_replicate, unl_replicate]; exact Nat.le_refl _) ?_
  · intro i o hi ho us w L hb hst hd
    have ho1 : l[i]? = some o := by simpa using ho
    have ho' : (l.take sp.length)[i]? = some o := by rw [List.getElem?_take, if_pos hi]; exact ho1
    have hs : sp[i]? = some sp[i] := List.getElem?_eq_getElem hi
    have := rsAllO_at _ _ 0 hall i o sp[i] ho' hs us w L (by simpa using hb) hst hd
    rw [Nat.zero_add] at this
    rw [hA, if_pos this.1]
    refine Oper.wp_mono (fun a' w' h => ?_) this.2
    obtain ⟨v, ha, h1, h2, h3⟩ := h
    refine ⟨v, ha, h1, h2, ?_⟩
    unfold depHolds
    simp only [ho1, hs]
    cases hdst : o.dst with
    | none => trivial
    | some d => simpa [upd] using h3
  · intro us w L hL hst hg
    have := hend us w L hL hst hg
    rw [hA]
    have e := wpOps_eq_wpList (P := P) (ops := l.toArray) (Q := Q) (l.drop sp.length) sp.length (fun j => by simp [List.getElem?_drop])
    rw [List.length_drop] at e
    have e2 : l.toArray.size - sp.length = l.length - sp.length := by simp
    rw [e2, e]
    exact this
  · refine ⟨by simp, ?_, ?_, ?_, fun t => a0.tmps.getD t undef, ?_, ?_⟩
    · intro j _ hj
      rw [getD_toList, Array.toList_replicate, List.getD_eq_getElem?_getD, List.getElem?_replicate]
      simp at hj
      simp [hj]
    · intro j o _ hj
      rw [getD_toList, Array.toList_replicate, List.getD_eq_getElem?_getD, List.getElem?_replicate] at hj
      split at hj <;> simp at hj
    · have e : (fun j => (Array.replicate l.toArray.size false).getD j false) = (fun _ => false) := by
        funext c
        rw [getD_toList, Array.toList_replicate, List.getD_eq_getElem?_getD, List.getElem?_replicate]
        split <;> rfl
      rw [e]; exact h0
    · unfold over
      cases a0 with
      | mk tmps defers =>
        congr 1
        apply Array.ext_getElem?
        intro i
        rw [Array.getElem?_mapIdx]
        cases hx : tmps[i]? with
        | none => rfl
        | some v =>
          simp only [Option.map_some, Array.getD_eq_getD_getElem?, hx, Option.getD_some]
          split <;> rfl
    · intro j _ hj
      rw [getD_toList, Array.toList_replicate, List.getD_eq_getElem?_getD, List.getElem?_replicate] at hj
      split at hj <;> simp at hj

end Go.Proofs.YtlcglclojlffgaaGreat
namespace Go.Proofs.YtlcglclojlffgaaGreat
open Go.RowKit

/-- **A REGION THAT DRAWS ITS ORDER, as wp_region_rs; the tail may wait for the head by way of others.** -/
theorem wp_region_rt {P : Program} {id : Nat} {l : List Oper} {Q : Exit → Act → World → Prop} {a0 : Act} {w0 : World} (ds : List Nat) (A : (Nat → Value) → Act) {Keep : World → World → Prop} (sp : List (Sp Keep)) (St : World → Prop)
    (hmix : P.follows .mixedOrders = true) (hB : rgOkO l.toArray sp.length ds (supOf l) = true) (hm : sp.length ≤ l.length) (hA : ∀ us, over a0 ds us = A us) (h0 : St w0.drew) (hrefl : ∀ w, Keep w w)
    (hall : rsAll P l A sp St (l.take sp.length) sp)
    (hend : ∀ us w, St w → (∀ j, j < sp.length → depHolds l sp us w j) → wpList P l.toArray Q (l.drop sp.length) (A us) w) : (Code.region id l.toArray true).wp P Q a0 w0 := by
  have hrg := rg_of_rs (P := P) (l := l) (A := A) (sp := sp) (St := St) (l.take sp.length) sp 0 (by rw [List.length_take]; omega) (fun j hj => by
      have : j < (l.take sp.length).length := by
        apply Classical.byContradiction
        intro h
        rw [List.getElem?_eq_none (by omega)] at hj; cases hj
      rw [List.length_take] at this
      rw [Nat.zero_add, List.getElem?_take, if_pos (by omega)]) (fun j hj => by
      rw [List.length_take] at hj
      rw [Nat.zero_add, List.getElem?_take, if_pos (by omega)]) (fun j _ => by simp) hall
  refine wp_region_any hmix ?_
  refine wpAny_headO (a0 := a0) (ds := ds) (G := fun i us w => depHolds l sp us w i) (St := fun _ => St) (Keep := Keep) hB (by simpa using hm) (fun j us w w' _ hk h => depHolds_kept hk h) hrefl (fun j us us' w _ he h => depHolds_sup he h) ?_ ?_ _ _ _ _ (by rw [Array.toList_replicate, unl_replicate]; exact Nat.le_refl _) ?_
  · intro i o hi ho us w L hb hst hd
    have ho' : (l.take sp.length)[i]? = some o := by rw [List.getElem?_take, if_pos hi]; simpa using ho
    have := rgAll_at _ 0 hrg i o ho' us w hst (fun e he hb => (hd e he hb).2)
    rw [Nat.zero_add] at this
    rw [hA]
    by_cases hw : Region.wanted o (yielded l.toArray (A us).tmps) = true
    · rw [if_pos hw] at this ⊢
      exact wp_of_leaves (fun v w' h => ⟨v, rfl, h.1, h.2.1, h.2.2⟩) this
    · rw [if_neg hw] at this ⊢
      exact ⟨hst, this⟩
  · intro us w L hL hst hg
    have := hend us w hst hg
    rw [hA]
    have e := wpOps_eq_wpList (P := P) (ops := l.toArray) (Q := Q) (l.drop sp.length) sp.length (fun j => by simp [List.getElem?_drop])
    rw [List.length_drop] at e
    have e2 : l.toArray.size - sp.length = l.length - sp.length := by simp
    rw [e2, e]
    exact this
  · refine ⟨by simp, ?_, ?_, h0, fun t => a0.tmps.getD t undef, ?_, ?_⟩
    · intro j _ hj
      rw [getD_toList, Array.toList_replicate, List.getD_eq_getElem?_getD, List.getElem?_replicate]
      simp at hj
      simp [hj]
    · intro j o _ hj
      rw [getD_toList, Array.toList_replicate, List.getD_eq_getElem?_getD, List.getElem?_replicate] at hj
      split at hj <;> simp at hj
    · unfold over
      cases a0 with
      | mk tmps defers =>
        congr 1
        apply Array.ext_getElem?
        intro i
        rw [Array.getElem?_mapIdx]
        cases hx : tmps[i]? with
        | none => rfl
        | some v =>
          simp only [Option.map_some, Array.getD_eq_getD_getElem?, hx, Option.getD_some]
          split <;> rfl
    · intro j _ hj
      rw [getD_toList, Array.toList_replicate, List.getD_eq_getElem?_getD, List.getElem?_replicate] at hj
      split at hj <;> simp at hj

end Go.Proofs.YtlcglclojlffgaaGreat
namespace Go.Proofs.YtlcglclojlffgaaGreat
open Go.RowKit

theorem below_cell {w w' : World} (h : Below w.heap.size w w') {b o : Nat} {v : Value} (hc : w.cell? ⟨b, o, none⟩ = some v) : w'.cell? ⟨b, o, none⟩ = some v := (h.cell (p := ⟨b, o, none⟩) (lt_of_cell hc)).trans hc
theorem grpM_at (m : Nat) (_h1 : 1 ≤ m) (_h3 : m ≤ 3) (g : Nat) (g1 : 1 ≤ g) (g3 : g ≤ grpM m) : (widsM m)[g - 1]? = some ((widM m g : Nat) : Int) := by
  obtain ⟨j, rfl⟩ : ∃ j, g = j + 1 := ⟨g - 1, by omega⟩
  rw [Nat.add_sub_cancel]
  unfold widsM
  rw [List.getElem?_map, List.getElem?_range (by omega)]
  rfl
theorem widsM_len (m : Nat) : (widsM m).length = grpM m := by simp [widsM]
set_option maxRecDepth 100000 in
set_option maxHeartbeats 1000000 in
theorem width_listed (m : Nat) (h1 : 1 ≤ m) (h3 : m ≤ 3) (a : Option Addr) (c : Nat) (g : Nat) (g1 : 1 ≤ g) (g3 : g ≤ grpM m) (w : World) (hx : IntsAt w a (widsM m)) :
    Calls Tryz.prog 175 #[.agg #[.string (charS m), .slice a (grpM m) c], .int .i64 (g : Int)] w fun e w' => e = .returned (.int .i64 (widM m g : Nat)) ∧ Below w.heap.size w w' := by
  obtain ⟨b, o, z, rfl, hz, hb, hc⟩ := hx.at (k := g - 1) (by rw [widsM_len]; omega)
  rw [grpM_at m h1 h3 g g1 g3] at hz
  obtain rfl := Option.some.inj hz
  have hi : (g : Int) - 1 = ((g - 1 : Nat) : Int) := by omega
  have hi2 : ((g - 1 : Nat) : Int) < (grpM m : Int) := by omega
  have hgb := (grpM_bd m).2
  clear hx hz
  go_enter Tryz.func175, Tryz.ntmps175
  go_wp2_with fail
  go_ret
  exact ⟨rfl, ba1 _ _⟩
set_option maxRecDepth 100000 in
theorem group_listed (s : ByteArray) (a : Option Addr) (n c : Nat) (w : World) :
    Calls Tryz.prog 173 #[.agg #[.string s, .slice a n c]] w fun e w' => e = .returned (.int .i64 (n : Int)) ∧ Below w.heap.size w w' := by
  go_enter Tryz.func173, Tryz.ntmps173
  go_wp2_with fail
  go_ret
  exact ⟨rfl, ba1 _ _⟩
set_option maxRecDepth 100000 in
theorem base_listed (s : ByteArray) (a : Option Addr) (n c : Nat) (w : World) :
    Calls Tryz.prog 171 #[.agg #[.string s, .slice a n c]] w fun e w' => e = .returned (.int .i64 (s.size : Int)) ∧ Below w.heap.size w w' := by
  go_enter Tryz.func171, Tryz.ntmps171
  go_wp2_with fail
  go_ret
  exact ⟨rfl, ba1 _ _⟩
set_option maxRecDepth 100000 in
theorem value_plain (x : Int) (w : World) :
    Calls Tryz.prog 179 #[.agg #[], .int .i64 x] w fun e w' => e = .returned (.int .i64 x) ∧ Below w.heap.size w w' := by
  go_enter Tryz.func179, Tryz.ntmps179
  go_wp2_with fail
  go_ret
  exact ⟨rfl, ba1 _ _⟩
set_option maxRecDepth 100000 in
theorem width_plain (x : Int) (w : World) :
    Calls Tryz.prog 180 #[.agg #[], .int .i64 x] w fun e w' => e = .returned (.int .i64 8) ∧ Below w.heap.size w w' := by
  go_enter Tryz.func180, Tryz.ntmps180
  go_wp2_with fail
  go_ret
  exact ⟨rfl, ba1 _ _⟩
set_option maxRecDepth 100000 in
theorem group_plain (w : World) :
    Calls Tryz.prog 178 #[.agg #[]] w fun e w' => e = .returned (.int .i64 1) ∧ Below w.heap.size w w' := by
  go_enter Tryz.func178, Tryz.ntmps178
  go_wp2_with fail
  go_ret
  exact ⟨rfl, ba1 _ _⟩
set_option maxRecDepth 100000 in
theorem base_plain (w : World) :
    Calls Tryz.prog 176 #[.agg #[]] w fun e w' => e = .returned (.int .i64 256) ∧ Below w.heap.size w w' := by
  go_enter Tryz.func176, Tryz.ntmps176
  go_wp2_with fail
  go_ret
  exact ⟨rfl, ba1 _ _⟩

/-- a method of a value in an interface -/
def Meth (T : TypeId) (r : Value) (name : String) (f : FuncId) : Prop := (∀ n W, (method (n + 1) T r name).run Tryz.prog W = .ok (f, r) W) ∧ (∀ args W, (callFunc f args).run Tryz.prog W = .ok (.enter f args) W) ∧ ∀ n W, (nilAhead (n + 1) T r name).run Tryz.prog W = .ok (some false) W
/-- a mode in an interface: its methods answer as the numbers say, while its block stands -/
structure ModeM (w : World) (m : Nat) (T : TypeId) (r : Value) (fv fg fb fw : FuncId) (bk : Option Nat) : Prop where
  mv : Meth T r "loop.example/g00879/impl.value" fv
  mg : Meth T r "loop.example/g00879/impl.group" fg
  mb : Meth T r "loop.example/g00879/impl.base" fb
  mw : Meth T r "loop.example/g00879/impl.width" fw
  lt : ∀ b, bk = some b → b < w.heap.size
  cv : ∀ x w', Calls Tryz.prog fv #[r, .int .i64 x] w' fun e w'' => e = .returned (.int .i64 (valC m x)) ∧ Below w'.heap.size w' w''
  cg : ∀ w', Calls Tryz.prog fg #[r] w' fun e w'' => e = .returned (.int .i64 (grpM m : Nat)) ∧ Below w'.heap.size w' w''
  cb : ∀ w', Calls Tryz.prog fb #[r] w' fun e w'' => e = .returned (.int .i64 (baseM m : Nat)) ∧ Below w'.heap.size w' w''
  cw : ∀ (g : Nat) w', 1 ≤ g → g ≤ grpM m → (∀ b, bk = some b → w'.heap[b]? = w.heap[b]?) → Calls Tryz.prog fw #[r, .int .i64 (g : Int)] w' fun e w'' => e = .returned (.int .i64 (widM m g : Nat)) ∧ Below w'.heap.size w' w''
theorem ModeM.kept {w w1 : World} {m : Nat} {T : TypeId} {r : Value} {fv fg fb fw : FuncId} {bk : Option Nat} (h : ModeM w m T r fv fg fb fw bk) (hs : w.heap.size ≤ w1.heap.size) (hk : ∀ b, bk = some b → w1.heap[b]? = w.heap[b]?) : ModeM w1 m T r fv fg fb fw bk :=
  ⟨h.mv, h.mg, h.mb, h.mw, fun b e => Nat.lt_of_lt_of_le (h.lt b e) hs, h.cv, h.cg, h.cb, fun g w' g1 g2 k => h.cw g w' g1 g2 (fun b e => (k b e).trans (hk b e))⟩
theorem ModeM.below {w w1 : World} {m : Nat} {T : TypeId} {r : Value} {fv fg fb fw : FuncId} {bk : Option Nat} (h : ModeM w m T r fv fg fb fw bk) (hb : Below w.heap.size w w1) : ModeM w1 m T r fv fg fb fw bk :=
  h.kept hb.size (fun b e => hb.block b (h.lt b e))
theorem ints_same {w w' : World} {b o : Nat} {zs : List Int} (h : IntsAt w (some ⟨b, o, none⟩) zs) (hk : w'.heap[b]? = w.heap[b]?) : IntsAt w' (some ⟨b, o, none⟩) zs := by
  intro i hi
  obtain ⟨b1, o1, e, hc⟩ := h i hi
  cases e
  exact ⟨b, o, rfl, by rw [← hc]; simp [World.cell?, hk]⟩
theorem mode_listed (m : Nat) (h1 : 1 ≤ m) (h3 : m ≤ 3) (b o c : Nat) (w : World) (hb : b < w.heap.size) (hx : IntsAt w (some ⟨b, o, none⟩) (widsM m)) :
    ModeM w m 159 (.agg #[.string (charS m), .slice (some ⟨b, o, none⟩) (grpM m) c]) 174 173 171 175 (some b) where
  lt := fun b' e => by cases e; exact hb
  mv := ⟨fun n W => by kernel_rfl, fun args W => by kernel_rfl, fun n W => by kernel_rfl⟩
  mg := ⟨fun n W => by kernel_rfl, fun args W => by kernel_rfl, fun n W => by kernel_rfl⟩
  mb := ⟨fun n W => by kernel_rfl, fun args W => by kernel_rfl, fun n W => by kernel_rfl⟩
  mw := ⟨fun n W => by kernel_rfl, fun args W => by kernel_rfl, fun n W => by kernel_rfl⟩
  cv := fun x w' => value_listed m h1 h3 _ _ c x w'
  cg := fun w' => group_listed _ _ _ c w'
  cb := fun w' => by
    have h := base_listed (charS m) (some ⟨b, o, none⟩) (grpM m) c w'
    rwa [charS_size, chars_len m h1 h3] at h
  cw := fun g w' g1 g3 hk => width_listed m h1 h3 _ c g g1 g3 w' (ints_same hx (hk b rfl))
theorem mode_plain (w : World) :
    ModeM w 4 161 (.agg #[]) 179 178 176 180 none where
  lt := fun b' e => by cases e
  mv := ⟨fun n W => by kernel_rfl, fun args W => by kernel_rfl, fun n W => by kernel_rfl⟩
  mg := ⟨fun n W => by kernel_rfl, fun args W => by kernel_rfl, fun n W => by kernel_rfl⟩
  mb := ⟨fun n W => by kernel_rfl, fun args W => by kernel_rfl, fun n W => by kernel_rfl⟩
  mw := ⟨fun n W => by kernel_rfl, fun args W => by kernel_rfl, fun n W => by kernel_rfl⟩
  cv := fun x w' => value_plain x w'
  cg := fun w' => group_plain w'
  cb := fun w' => base_plain w'
  cw := fun g w' _ _ _ => width_plain (g : Int) w'
/-- a mode is handed back -/
def RetMode (m : Nat) (w : World) (e : Ending) (w' : World) : Prop := Below w.heap.size w w' ∧ ∃ T r fv fg fb fw bk, e = .returned (.tuple #[.iface T r, .bool true]) ∧ ModeM w' m T r fv fg fb fw bk ∧ ∀ b, bk = some b → w.heap.size ≤ b
theorem ints_lit2 {w : World} {g : Nat} {cs : Array Value} {t : TypeId} {zs : List Int} (h : w.heap[g]? = some (.cells cs t (0, 0))) (hc : cs = (zs.map (Value.int .i64)).toArray) : IntsAt w (some ⟨g, 0, none⟩) zs := by
  intro i hi
  refine ⟨g, 0, rfl, ?_⟩
  rw [Nat.zero_add, (heap_cellR h).1, hc]
  simp [hi]
set_option maxRecDepth 100000 in
set_option maxHeartbeats 1000000 in
theorem modeOf_any (m : Nat) (h1 : 1 ≤ m) (h4 : m ≤ 4) (w : World) : Calls Tryz.prog 109 #[.int .i64 (m : Int)] w (RetMode m w) := by
  obtain rfl | rfl | rfl | rfl : m = 1 ∨ m = 2 ∨ m = 3 ∨ m = 4 := by omega
  · go_enter Tryz.func109, Tryz.ntmps109
    go_wp2_with fail
    go_ret2
    exact ⟨ba1 _ _, _, _, _, _, _, _, _, rfl, mode_listed 1 (by omega) (by omega) _ _ _ _ (by simp) (ints_lit2 (push_at _ _) rfl), fun b e => by cases e; exact Nat.le_refl _⟩
  · go_enter Tryz.func109, Tryz.ntmps109
    go_wp2_with fail
    go_ret2
    exact ⟨ba1 _ _, _, _, _, _, _, _, _, rfl, mode_listed 2 (by omega) (by omega) _ _ _ _ (by simp) (ints_lit2 (push_at _ _) rfl), fun b e => by cases e; exact Nat.le_refl _⟩
  · go_enter Tryz.func109, Tryz.ntmps109
    go_wp2_with fail
    go_ret2
    exact ⟨ba1 _ _, _, _, _, _, _, _, _, rfl, mode_listed 3 (by omega) (by omega) _ _ _ _ (by simp) (ints_lit2 (push_at _ _) rfl), fun b e => by cases e; exact Nat.le_refl _⟩
  · go_enter Tryz.func109, Tryz.ntmps109
    go_wp2_with fail
    go_ret2
    exact ⟨Below.refl _ _, _, _, _, _, _, _, _, rfl, mode_plain _, fun b e => by cases e⟩

end Go.Proofs.YtlcglclojlffgaaGreat
namespace Go.Proofs.YtlcglclojlffgaaGreat
open Go.RowKit

/-- a new slice of n cells, of the region's own -/
def SlcN (B n : Nat) (cs : Array Value) (t : TypeId) (v : Value) (W : World) : Prop := ∃ b, v = .slice (some ⟨b, 0, none⟩) n n ∧ B ≤ b ∧ W.heap[b]? = some (.cells cs t (0, 0))
def spSlN (B n : Nat) (cs : Array Value) (t : TypeId) : Sp KB := ⟨SlcN B n cs t, fun _ _ _ hk ⟨b, hv, hb, hg⟩ => ⟨b, hv, hb, blkK hk hg⟩⟩
theorem sln_new {w0 W : World} {B n : Nat} {cs : Array Value} {t : TypeId} (hst : StX w0 W) (hB : B ≤ w0.heap.size) : RsR (StX w0) (spSlN B n cs t) W (.slice (some ⟨W.heap.size, 0, none⟩) n n) (W.alloc (.cells cs t (0, 0))) :=
  kb_below hst (ba1 _ _) ⟨W.heap.size, rfl, Nat.le_trans hB hst.size, push_at _ _⟩
/-- a code as a value -/
abbrev cdV (F : Fd) (len chk : Int) : Value := .agg #[.int .i64 2, .int .i64 (F.k : Int), .int .i64 (F.g : Int), .int .i64 len, .int .i64 chk]
abbrev cdC (F : Fd) (len chk : Int) : Array Value := #[.int .i64 2, .int .i64 (F.k : Int), .int .i64 (F.g : Int), .int .i64 len, .int .i64 chk]
theorem three_at {w : World} {b : Nat} {F : Fd} {len chk : Int} (h : w.heap[b]? = some (.cells (cdC F len chk) 73 (0, 0))) :
    w.cell? ⟨b, 0, none⟩ = some (.int .i64 2) ∧ w.cell? ⟨b, 1, none⟩ = some (.int .i64 (F.k : Int)) ∧ w.cell? ⟨b, 2, none⟩ = some (.int .i64 (F.g : Int)) ∧ w.cell? ⟨b, 3, none⟩ = some (.int .i64 len) ∧ w.cell? ⟨b, 4, none⟩ = some (.int .i64 chk) := by
  obtain ⟨hc, -⟩ := heap_cellR h
  exact ⟨hc 0, hc 1, hc 2, hc 3, hc 4⟩
theorem pair_ints {W : World} {b : Nat} {x : Nat} (h : W.heap[b]? = some (.cells #[.int .i64 (x : Int), .int .i64 1] 2 (0, 0))) : IntsAt W (some ⟨b, 0, none⟩) (natI [x, 1]) := ints_lit h rfl

set_option maxRecDepth 100000 in
set_option maxHeartbeats 4000000 in
theorem spGenP_any (F : Fd) (hF : FdR F) (len : Int) (chk : Nat) (w : World) (hc : chk ≤ 64) :
    Calls Tryz.prog 99 #[cdV F len chk] w (RetSl w (natI (genP F chk))) := by
  have HF := Lib.hid hF
  have HX := Lib.hid (push_at w (.cells (cdC F len chk) 73 (0, 0)))
  have HB0 := Lib.hid (ba1 w (.cells (cdC F len chk) 73 (0, 0)))
  obtain ⟨w1, hw1⟩ : ∃ w1, w1 = w.alloc (.cells (cdC F len chk) 73 (0, 0)) := ⟨_, rfl⟩
  have HW1 := Lib.hid hw1
  rw [← hw1] at HX HB0
  have hs1 : w1.heap.size = w.heap.size + 1 := by rw [hw1]; simp
  clear hF hw1
  go_enter Tryz.func99, Tryz.ntmps99
  go_wp2_with fail
  rw [← HW1.out]
  have HO := Lib.hid (show OwnI (w1.alloc (.cells #[.int .i64 1] 2 (0, 0))) w1.heap.size (.slice (some ⟨w1.heap.size, 0, none⟩) 1 1) (natI (genP F 0)) from World.ownsRow_lit (base := w1.heap.size) (size := 1) w1 #[.int .i64 1] 1 (Nat.le_refl _) (by unfold maxLen; omega) rfl)
  rw [hs1] at HO
  go_loopw [3, 4, 5] (fun v r i wr => ∃ (j : Nat) (a : Option Addr) (c : Nat), j ≤ chk ∧ i = .int .i64 j ∧ r = .int .i64 (F.pw j : Nat) ∧ v = .slice a (natI (genP F j)).length c ∧ OwnI wr (w.heap.size + 1) (.slice a (natI (genP F j)).length c) (natI (genP F j)) ∧ Below w1.heap.size w1 wr) (fun _ _ i _ => chk - (intOf i).toNat)
  case atStart => exact ⟨0, _, 1, Nat.zero_le _, rfl, rfl, rfl, HO.out, ba1 _ _⟩
  case round =>
    obtain ⟨j, a, c, hj, rfl, rfl, rfl, ho, hb⟩ := hrel
    have HO := Lib.hid ho
    have HB := Lib.hid hb
    have K := Lib.hid (blkK hb HX.out)
    obtain ⟨hx0, hx1, hx2, hx3, hx4⟩ := three_at K.out
    have hltA := blkLt K.out
    obtain ⟨ws, rfl⟩ : ∃ ws : World, ws = wr := ⟨_, rfl⟩
    clear ho hb
    by_cases hlt : j < chk
    · have hji : (j : Int) < (chk : Int) := by omega
      have HPW := Lib.hid (show F.mul (F.pw j) 2 = F.pw (j + 1) by rw [← pw_one HF.out.toFdB, F.mul_pw HF.out.fit])
      have hpl : F.pw j < F.q := F.pw_lt HF.out.fit j
      have h2l : 2 < F.q := by have := HF.out.q_bd; omega
      have HPL := Lib.hid (And.intro hpl h2l)
      clear hpl h2l
      go_wp2_with fail
      refine wp_region_ext_tail 7 (by kernel_rfl) (by kernel_rfl) ?_
      simp only [List.take_succ_cons, List.take_zero, List.drop_succ_cons, List.drop_zero]
      repeat (go_big_quiet_step ((first
        | (go_at_call 125; go_must (exact calls_ext _ (spGen_any F HF.out.toFdB _)))
        | (go_at_call 117; go_must (exact calls_ext _ (spMulR_any F HF.out.toFdB (F.pw j) 2 HPL.out.1 HPL.out.2 _))))))
      refine wpQuiet_nil ?_
      rintro _ ⟨s, rfl⟩
      have hb4 := s.below
      generalize s.w = w4 at hb4 ⊢
      rw [HPW.out]
      have HO4 := Lib.hid (HO.out.grown hb4)
      have HB4 := Lib.hid (bt0 HB.out hb4 (Nat.le_refl _))
      have K4 := Lib.hid (blkK hb4 K.out)
      have hs4 : w1.heap.size ≤ w4.heap.size := HB4.out.size
      clear hx0 hx1 hx2 hx3 hx4 hltA hb4 s K HO HB
      obtain ⟨hx0, hx1, hx2, hx3, hx4⟩ := three_at K4.out
      go_wp2_with fail
      refine wp_region_rt (Keep := KB) [20, 21, 22, 23, 24, 25, 26, 27] (fun us => _)
        [spE (.pointer (some ⟨w.heap.size, 0, none⟩)),
         spE (fV F),
         spE (.slice a (natI (genP F j)).length c),
         spE (.pointer (some ⟨w.heap.size, 0, none⟩)),
         spE (fV F),
         spE (.int .i64 ((F.pw (j + 1) : Nat) : Int)),
         spE (.int .i64 ((F.neg (F.pw (j + 1)) : Nat) : Int)),
         spSlN (w.heap.size + 1) 2 #[.int .i64 ((F.neg (F.pw (j + 1)) : Nat) : Int), .int .i64 1] 2]
        (StX w4) (by kernel_rfl) (by kernel_rfl) (Nat.le_of_ble_eq_true rfl) (fun us => by simp [over, List.mapIdx_cons]; exact rfl) (stX0 _) kbr ?_ ?_
      · refine ⟨?_, ?_, ?_, ?_, ?_, ?_, ?_, ?_, trivial⟩
        all_goals (intro us wx hst hd; rw [if_pos (by kernel_rfl)]; dsimp only)
        · clear hd
          go_simp
          exact kb_same hst rfl
        · have d20 : us 20 = (.pointer (some ⟨w.heap.size, 0, none⟩)) := hd ⟨0, .data⟩ (by simp) rfl
          clear hd
          have hW0 := below_cell hst hx0
          have hW1 := below_cell hst hx1
          have hW2 := below_cell hst hx2
          go_simp
          exact kb_same hst rfl
        · clear hd
          go_simp
          exact kb_same hst rfl
        · clear hd
          go_simp
          exact kb_same hst rfl
        · have d23 : us 23 = (.pointer (some ⟨w.heap.size, 0, none⟩)) := hd ⟨3, .data⟩ (by simp) rfl
          clear hd
          have hW0 := below_cell hst hx0
          have hW1 := below_cell hst hx1
          have hW2 := below_cell hst hx2
          go_simp
          exact kb_same hst rfl
        · clear hd
          go_simp
          exact kb_same hst rfl
        · have d24 : us 24 = (fV F) := hd ⟨4, .data⟩ (by simp) rfl
          have d25 : us 25 = (.int .i64 ((F.pw (j + 1) : Nat) : Int)) := hd ⟨5, .data⟩ (by simp) rfl
          clear hd
          go_simp
          exact (spNeg_any F HF.out.toFdB _ wx).mono fun e w' ⟨he, hb⟩ => ⟨_, he, kb_below hst hb rfl⟩
        · have d26 : us 26 = (.int .i64 ((F.neg (F.pw (j + 1)) : Nat) : Int)) := hd ⟨6, .data⟩ (by simp) rfl
          clear hd
          go_simp
          exact sln_new hst (by omega)
      · intro us wx hst hd
        have d21 : us 21 = (fV F) := hd 1 (by simp)
        have d22 : us 22 = (.slice a (natI (genP F j)).length c) := hd 2 (by simp)
        have d27 := hd 7 (by simp)
        clear hd
        simp only [List.drop, List.length]
        rw [d21, d22]
        obtain ⟨gx, hgx, -, hgx2⟩ := d27
        rw [hgx]
        have HXI := Lib.hid (pair_ints hgx2)
        have HOx := Lib.hid (HO4.out.grown hst).ints
        have HBx := Lib.hid (bt0 HB4.out hst (Nat.le_refl _))
        have HGL := Lib.hid (show (genP F j).length ≤ 1000 by rw [(genP_top HF.out.runs HF.out.fit j).1]; omega)
        have HQA : Hid (AllE F [F.neg (F.pw (j + 1)), 1]) := Lib.hid (fun x hx => by
          have := HF.out.fit.q3
          have := F.neg_lt (F.pw_lt HF.out.fit (j + 1))
          simp only [List.mem_cons, List.not_mem_nil, or_false] at hx
          omega)
        clear hst hgx2
        go_wp2_with fail
        refine (spPMul_any F HF.out a (some ⟨gx, 0, none⟩) (genP F j) [F.neg (F.pw (j + 1)), 1] _ 2 _ 2 wx (natI_len _) rfl HOx.out HXI.out (genP_all HF.out.runs HF.out.fit j) HQA.out HGL.out (by simp)).mono ?_
        rintro e w5 ⟨a5, c5, rfl, ho5, hb5⟩
        have HO5 := Lib.hid ho5
        have HB5 := Lib.hid hb5
        have hsx : w1.heap.size ≤ wx.heap.size := HBx.out.size
        clear ho5 hb5
        go_wp2_with fail
        exact ⟨⟨j + 1, a5, c5, by omega, by go_num, rfl, rfl, HO5.out.weak (by omega), bt0 HBx.out HB5.out (Nat.le_refl _)⟩, by simp [intOf]; omega⟩
    · obtain rfl : j = chk := by omega
      have hji : ¬ (j : Int) < (j : Int) := by omega
      have hsz := HB0.out.size
      go_wp2_with fail
      go_ret
      exact ⟨a, c, rfl, HO.out.weak (by omega), HB0.out.trans (HB.out.mono hsz)⟩

end Go.Proofs.YtlcglclojlffgaaGreat
namespace Go.Proofs.YtlcglclojlffgaaGreat
open Go.RowKit

/-! As RG, where one operation f of the head may come up behind the first of the tail (a result that is taken apart beside a late store). -/

def rgOkF (ops : Array Oper) (m f : Nat) (ds : List Nat) (sup : Nat → List Nat) : Bool :=
  decide (f < m) && decide (m < ops.size) && (List.range ops.size).all fun j => match ops[j]? with
    | none => true
    | some o =>
      (decide (m ≤ j) || ((match o.dst with | some d => ds.contains d | none => true) &&
        (sup j).all fun t => (List.range ops.size).all fun i => match ops[i]? with
          | none => true
          | some oi => oi.dst != some t || i == j || o.after.any fun e => Region.binds .any e && e.on == i)) &&
      (decide (j < m) || (List.range j).all (fun i => (i == f && j == m) || o.after.any fun e => Region.binds .any e && e.on == i)) && o.after.all fun e => !Region.binds .any e || decide (e.on < j)

variable {P : Program} {ops : Array Oper} {Q : Exit → Act → World → Prop}

/-- the tail, in its one order -/
theorem wpAny_tailF {m f : Nat} {ds : List Nat} {sup : Nat → List Nat} (hB0 : rgOkF ops m f ds sup = true) : ∀ (r k : Nat) (listed : Array Bool) (a : Act) (w : World), m ≤ k → k + r = ops.size →
    (∀ j, j < ops.size → listed.getD j true = decide (j < k)) → listed.size = ops.size → ∀ fuel, r ≤ fuel → wpOps P ops Q (List.range' k r) a w → wpAny P .any ops Q fuel listed a w
  | 0, k, listed, a, w, hm, hk, hl, hs, fuel, hf, h => by
    have hr : Region.ready .any ops listed = [] := by
      rw [List.eq_nil_iff_forall_not_mem]
      intro j hj
      obtain ⟨h1, o, ho, _⟩ := mem_ready.1 hj
      have hlt : j < ops.size := (Array.getElem?_eq_some_iff.1 ho).1
      rw [hl j hlt] at h1
      simp at h1; omega
    have hq : Q .normal a w := h
    cases fuel with
    | zero => exact ⟨hr, hq⟩
    | succ f => exact ⟨fun _ => hq, fun i hi => by rw [hr] at hi; cases hi⟩
  | r + 1, k, listed, a, w, hm, hk, hl, hs, fuel, hf, h => by
    have hB := hB0
    unfold rgOkF at hB
    rw [Bool.and_eq_true] at hB
    have hkn : k < ops.size := by omega
    have hready : ∀ j ∈ Region.ready .any ops listed, j = k := by
      intro j hj
      obtain ⟨h1, o, ho, hdep⟩ := mem_ready.1 hj
      have hlt : j < ops.size := (Array.getElem?_eq_some_iff.1 ho).1
      rw [hl j hlt] at h1
      have hjk : k ≤ j := by simpa using h1
      rcases Nat.lt_or_ge k j with hlt' | hge
      · exfalso
        have hb := List.all_eq_true.1 hB.2 j (List.mem_range.2 hlt)
        simp only [ho, Bool.and_eq_true, Bool.or_eq_true, decide_eq_true_eq] at hb
        rcases hb.1.2 with hb2 | hb2
        · omega
        · have := List.all_eq_true.1 hb2 k (List.mem_range.2 hlt')
          simp only [Bool.or_eq_true, Bool.and_eq_true, beq_iff_eq] at this
          have hfm : f < m := by have h := hB.1; rw [Bool.and_eq_true] at h; simpa using h.1
          rcases this with this | this
          · omega
          obtain ⟨e, he, hee⟩ := Array.any_eq_true'.1 this
          simp only [Bool.and_eq_true, beq_iff_eq] at hee
          have hd := hdep e he hee.1
          rw [hee.2] at hd
          have := hl k hkn
          rw [getD_toList] at this hd
          rw [List.getD_eq_getElem?_getD] at this hd
          cases hx : listed.toList[k]? with
          | none => rw [hx] at hd; simp at hd
          | some b => rw [hx] at this hd; simp at this hd; rw [this] at hd; cases hd
      · omega
    cases fuel with
    | zero => omega
    | succ f =>
      refine ⟨fun h0 => ?_, fun i hi => ?_⟩
      · exfalso
        obtain ⟨o, ho⟩ : ∃ o, ops[k]? = some o := ⟨ops[k], Array.getElem?_eq_getElem hkn⟩
        have : k ∈ Region.ready .any ops listed := by
          refine mem_ready.2 ⟨?_, o, ho, ?_⟩
          · rw [hl k hkn]; simp
          · intro e he hbind
            have hb := List.all_eq_true.1 hB.2 k (List.mem_range.2 hkn)
            simp only [ho, Bool.and_eq_true, Bool.or_eq_true, decide_eq_true_eq] at hb
            · have h2 := Array.all_eq_true'.1 hb.2 e he
              simp only [hbind, Bool.not_true, Bool.or_eq_true, Bool.false_eq_true, false_or, decide_eq_true_eq] at h2
              have := hl e.on (by omega)
              rw [getD_toList, List.getD_eq_getElem?_getD] at this ⊢
              cases hx : listed.toList[e.on]? with
              | none =>
                have := List.getElem?_eq_none_iff.1 hx
                simp [hs] at this; omega
              | some b => rw [hx] at this; simp at this; simp [this]; exact h2
        rw [h0] at this; cases this
      · obtain rfl := hready i hi
        rw [List.range'_succ, wpOps_cons] at h
        refine wpOp_mono (fun a' w' h' => ?_) h
        refine wpAny_tailF hB0 r (i + 1) _ a' w' (by omega) (by omega) ?_ (by simpa using hs) f (by omega) h'
        intro j hj
        by_cases e : i = j
        · subst e
          rw [getD_toList, Array.toList_setIfInBounds, List.getD_eq_getElem?_getD, List.getElem?_set]
          simp [hs, hj]
        · rw [getD_toList, Array.toList_setIfInBounds, List.getD_eq_getElem?_getD, List.getElem?_set, if_neg e, ← List.getD_eq_getElem?_getD, ← getD_toList, hl j hj]
          simp; omega


theorem wpAny_headF {m f : Nat} {a0 : Act} {ds : List Nat} {sup : Nat → List Nat} {G : Nat → (Nat → Value) → World → Prop} {St : World → Prop} {Keep : World → World → Prop} (hB0 : rgOkF ops m f ds sup = true)
    (hkeep : ∀ j us w w', j < m → Keep w w' → G j us w → G j us w') (hrefl : ∀ w, Keep w w) (hsup : ∀ j us us' w, j < m → (∀ t ∈ sup j, us t = us' t) → G j us w → G j us' w)
    (howe : ∀ i o, i < m → ops[i]? = some o → Owes P ops Q a0 ds G St Keep i o)
    (hend : ∀ us w, St w → (∀ j, j < m → G j us w) → wpOps P ops Q (List.range' m (ops.size - m)) (over a0 ds us) w)
    (hend2 : ∀ us w, St w → (∀ j, j < m → j ≠ f → G j us w) → wpOps P ops Q (m :: f :: List.range' (m + 1) (ops.size - (m + 1))) (over a0 ds us) w) :
    ∀ (fuel : Nat) (listed : Array Bool) (a : Act) (w : World), unl listed.toList ≤ fuel → Under ops m a0 ds G St listed a w → wpAny P .any ops Q fuel listed a w := by
  have hB1 := hB0
  unfold rgOkF at hB1
  rw [Bool.and_eq_true] at hB1
  have hB2 := hB1.1
  rw [Bool.and_eq_true] at hB2
  obtain ⟨hfm, hms⟩ := hB2
  have hfm : f < m := by simpa using hfm
  have hms : m < ops.size := by simpa using hms
  have hm : m ≤ ops.size := by omega
  have hB := hB1.2
  have hdepOk : ∀ j o, j < m → ops[j]? = some o → (∀ d, o.dst = some d → ds.contains d = true) ∧ ∀ t ∈ sup j, ∀ i oi, ops[i]? = some oi → oi.dst = some t → i = j ∨ ∃ e ∈ o.after, Region.binds .any e = true ∧ e.on = i := by
    intro j o hj ho
    have hlt : j < ops.size := (Array.getElem?_eq_some_iff.1 ho).1
    have hb := List.all_eq_true.1 hB j (List.mem_range.2 hlt)
    simp only [ho, Bool.and_eq_true, Bool.or_eq_true, decide_eq_true_eq] at hb
    rcases hb.1.1 with h | h
    · omega
    · refine ⟨?_, ?_⟩
      · intro d hd
        have := h.1
        rw [hd] at this
        exact this
      · intro t ht i oi hi hd
        have h2 := List.all_eq_true.1 (List.all_eq_true.1 h.2 t ht) i (List.mem_range.2 (Array.getElem?_eq_some_iff.1 hi).1)
        simp only [hi, Bool.or_eq_true, bne_iff_ne, beq_iff_eq, hd] at h2
        rcases h2 with (h2 | h2) | h2
        · exact absurd rfl h2
        · exact Or.inl h2
        · obtain ⟨e, he, hee⟩ := Array.any_eq_true'.1 h2
          simp only [Bool.and_eq_true, beq_iff_eq] at hee
          exact Or.inr ⟨e, he, hee.1, hee.2⟩
  have step : ∀ (fuel : Nat) (listed : Array Bool) (a : Act) (w : World), unl listed.toList ≤ fuel → Under ops m a0 ds G St listed a w →
      (∀ j, j < m → listed.getD j true = true) → wpAny P .any ops Q fuel listed a w := by
    intro fuel listed a w hf U hall
    obtain ⟨us, rfl, hG⟩ := U.left
    have hx : ∀ j, j < m → listed.getD j false = true := by
      intro j hj
      have := hall j hj
      rw [getD_toList, List.getD_eq_getElem?_getD] at this ⊢
      cases hy : listed.toList[j]? with
      | none =>
        have h1 := List.getElem?_eq_none_iff.1 hy
        have := U.size
        simp at h1; omega
      | some b => rw [hy] at this; simpa using this
    have hr : ops.size - m ≤ fuel := by
      refine Nat.le_trans ?_ hf
      have : ∀ (n : Nat) (l : List Bool), (∀ j, n ≤ j → j < l.length → l.getD j true = false) → l.length - n ≤ unl l := by
        intro n l
        induction l generalizing n with
        | nil => intro _; simp
        | cons b r ih =>
          intro hb
          cases n with
          | zero =>
            have h0 := hb 0 (Nat.le_refl _) (by simp)
            have h1 := ih 0 (fun j _ hj => by have := hb (j + 1) (by omega) (by simpa using hj); simpa using this)
            simp at h0
            subst h0
            simp [unl] at h1 ⊢; omega
          | succ n =>
            have h1 := ih n (fun j hj hj' => by have := hb (j + 1) (by omega) (by simpa using hj'); simpa using this)
            simp only [unl, List.length_cons]; omega
      have h2 := this m listed.toList (fun j hj hj' => by rw [← getD_toList]; exact U.tail j hj (by have := U.size; simp at hj'; omega))
      have := U.size
      simp at h2; omega
    refine wpAny_tailF hB0 (ops.size - m) m listed _ w (Nat.le_refl _) (by omega) ?_ U.size fuel hr (hend us w U.st (fun j hj => hG j hj (hx j hj)))
    intro j hj
    rcases Nat.lt_or_ge j m with h | h
    · rw [hall j h]; simp [h]
    · rw [U.tail j h hj]; simp; omega
  intro fuel
  induction fuel with
  | zero =>
    intro listed a w hf U
    exact step 0 listed a w hf U (fun j _ => by rw [getD_toList]; exact unl_zero _ (by omega) j)
  | succ fuel ih =>
    intro listed a w hf U
    by_cases hall : ∀ j, j < m → listed.getD j true = true
    · exact step _ listed a w hf U hall
    · obtain ⟨us, rfl, hG⟩ := U.left
      have hnot : ∃ j, j < m ∧ listed.getD j true = false := by
        apply Classical.byContradiction
        intro hn
        apply hall
        intro j hj
        cases hx : listed.getD j true with
        | true => rfl
        | false => exact absurd ⟨j, hj, hx⟩ hn
      refine ⟨fun h0 => ?_, fun i hi => ?_⟩
      · -- the least that is not listed may come up
        have least : ∀ n j, j ≤ n → j < m → listed.getD j true = false → False := by
          intro n
          induction n with
          | zero =>
            intro j hj hjm hjl
            obtain rfl : j = 0 := by omega
            obtain ⟨oj, hoj⟩ : ∃ oj, ops[0]? = some oj := ⟨ops[0], Array.getElem?_eq_getElem (by omega)⟩
            have : 0 ∈ Region.ready .any ops listed := mem_ready.2 ⟨hjl, oj, hoj, fun e he hbind => by
              have hb := List.all_eq_true.1 hB 0 (List.mem_range.2 (by omega))
              simp only [hoj, Bool.and_eq_true] at hb
              have h2 := Array.all_eq_true'.1 hb.2 e he
              simp only [hbind, Bool.not_true, Bool.or_eq_true, Bool.false_eq_true, false_or, decide_eq_true_eq] at h2
              omega⟩
            rw [h0] at this; cases this
          | succ n ihn =>
            intro j hj hjm hjl
            obtain ⟨oj, hoj⟩ : ∃ oj, ops[j]? = some oj := ⟨ops[j], Array.getElem?_eq_getElem (by omega)⟩
            have : j ∈ Region.ready .any ops listed := mem_ready.2 ⟨hjl, oj, hoj, fun e he hbind => by
              have hb := List.all_eq_true.1 hB j (List.mem_range.2 (by omega))
              simp only [hoj, Bool.and_eq_true] at hb
              have h2 := Array.all_eq_true'.1 hb.2 e he
              simp only [hbind, Bool.not_true, Bool.or_eq_true, Bool.false_eq_true, false_or, decide_eq_true_eq] at h2
              cases hx : listed.getD e.on true with
              | false => exact (ihn e.on (by omega) (by omega) hx).elim
              | true =>
                rw [getD_toList, List.getD_eq_getElem?_getD] at hx ⊢
                cases hy : listed.toList[e.on]? with
                | none =>
                  have h4 := List.getElem?_eq_none_iff.1 hy
                  have := U.size
                  simp at h4; omega
                | some b => rw [hy] at hx; simpa using hx⟩
            rw [h0] at this; cases this
        obtain ⟨j, hj, hjl⟩ := hnot
        exact (least j j (Nat.le_refl _) hj hjl).elim
      · obtain ⟨h1, o, ho, hdep⟩ := mem_ready.1 hi
        have hlt : i < ops.size := (Array.getElem?_eq_some_iff.1 ho).1
        have hil : listed.toList[i]? = some false := by
          rw [getD_toList, List.getD_eq_getElem?_getD] at h1
          cases hx : listed.toList[i]? with
          | none => rw [hx] at h1; simp at h1
          | some b => rw [hx] at h1; simp at h1; rw [h1]
        rcases Nat.lt_or_ge i m with him | hge
        rotate_left
        · have gd : ∀ t, t < ops.size → ∀ l : Array Bool, l.size = ops.size → l.getD t true = l.getD t false := fun t ht l hl => by
            rw [getD_toList, getD_toList, List.getD_eq_getElem?_getD, List.getD_eq_getElem?_getD, List.getElem?_eq_getElem (by simpa [hl] using ht)]; rfl
          have hb := List.all_eq_true.1 hB i (List.mem_range.2 hlt)
          simp only [ho, Bool.and_eq_true, Bool.or_eq_true, decide_eq_true_eq] at hb
          have hwait : ∀ t, t < i → (t = f ∧ i = m) ∨ listed.getD t false = true := by
            intro t ht
            rcases hb.1.2 with hb2 | hb2
            · omega
            · have := List.all_eq_true.1 hb2 t (List.mem_range.2 ht)
              simp only [Bool.or_eq_true, Bool.and_eq_true, beq_iff_eq] at this
              rcases this with this | this
              · exact Or.inl this
              · obtain ⟨e, he, hee⟩ := Array.any_eq_true'.1 this
                simp only [Bool.and_eq_true, beq_iff_eq] at hee
                have hd := hdep e he hee.1
                rw [hee.2] at hd
                exact Or.inr hd
          obtain ⟨j, hj, hjl⟩ := hnot
          have hjf : j = f ∧ i = m := by
            rcases hwait j (by omega) with h | h
            · exact h
            · rw [gd j (by omega) listed U.size, h] at hjl; cases hjl
          obtain ⟨hjf, him⟩ := hjf
          subst hjf
          subst him
          have hG' : ∀ t, t < i → t ≠ j → G t us w := fun t ht hne => hG t ht ((hwait t ht).resolve_left (fun h => hne h.1))
          have h2 := hend2 us w U.st hG'
          rw [wpOps_cons] at h2
          refine wpOp_mono (fun a' w' h' => ?_) h2
          rw [wpOps_cons] at h'
          have hu1 := unl_set listed.toList i hil
          rw [← Array.toList_setIfInBounds] at hu1
          have hs1 : (listed.setIfInBounds i true).size = ops.size := by simpa using U.size
          have hfl : (listed.setIfInBounds i true).getD j true = false := by rw [getD_set_other (by omega)]; exact hjl
          cases fuel with
          | zero =>
            have := unl_zero (listed.setIfInBounds i true).toList (by omega) j
            rw [← getD_toList, hfl] at this
            cases this
          | succ fu =>
            have hfs : (listed.setIfInBounds i true).toList[j]? = some false := by
              rw [getD_toList, List.getD_eq_getElem?_getD] at hfl
              cases hx : (listed.setIfInBounds i true).toList[j]? with
              | none => rw [hx] at hfl; simp at hfl
              | some b => rw [hx] at hfl; simp at hfl; rw [hfl]
            have hu2 := unl_set _ j hfs
            rw [← Array.toList_setIfInBounds] at hu2
            have hall1 : ∀ t, t < i → t ≠ j → (listed.setIfInBounds i true).getD t false = true := fun t ht hne => getD_set_true ((hwait t ht).resolve_left (fun h => hne h.1))
            refine ⟨fun h0 => ?_, fun i' hi' => ?_⟩
            · exfalso
              obtain ⟨oj, hoj⟩ : ∃ oj, ops[j]? = some oj := ⟨ops[j], Array.getElem?_eq_getElem (by omega)⟩
              have : j ∈ Region.ready .any ops (listed.setIfInBounds i true) := mem_ready.2 ⟨hfl, oj, hoj, fun e he hbind => by
                have hbj := List.all_eq_true.1 hB j (List.mem_range.2 (by omega))
                simp only [hoj, Bool.and_eq_true] at hbj
                have h3 := Array.all_eq_true'.1 hbj.2 e he
                simp only [hbind, Bool.not_true, Bool.or_eq_true, Bool.false_eq_true, false_or, decide_eq_true_eq] at h3
                exact hall1 e.on (by omega) (by omega)⟩
              rw [h0] at this; cases this
            · obtain ⟨h1', o', ho', hdep'⟩ := mem_ready.1 hi'
              have hlt' : i' < ops.size := (Array.getElem?_eq_some_iff.1 ho').1
              have hij : i' = j := by
                apply Classical.byContradiction
                intro hne
                rcases Nat.lt_trichotomy i' i with h | h | h
                · have := hall1 i' h hne
                  rw [← gd i' hlt' _ hs1, h1'] at this; cases this
                · subst h
                  have := gd i' hlt' _ hs1
                  have h5 : (listed.setIfInBounds i' true).getD i' false = true := by
                    rw [getD_toList, Array.toList_setIfInBounds, List.getD_eq_getElem?_getD, List.getElem?_set, if_pos rfl, if_pos (by have := U.size; simp; omega)]; rfl
                  rw [this, h5] at h1'; cases h1'
                · have hb' := List.all_eq_true.1 hB i' (List.mem_range.2 hlt')
                  simp only [ho', Bool.and_eq_true, Bool.or_eq_true, decide_eq_true_eq] at hb'
                  rcases hb'.1.2 with hb2 | hb2
                  · omega
                  · have := List.all_eq_true.1 hb2 j (List.mem_range.2 (by omega))
                    simp only [Bool.or_eq_true, Bool.and_eq_true, beq_iff_eq] at this
                    rcases this with this | this
                    · omega
                    · obtain ⟨e, he, hee⟩ := Array.any_eq_true'.1 this
                      simp only [Bool.and_eq_true, beq_iff_eq] at hee
                      have hd := hdep' e he hee.1
                      rw [hee.2, ← gd j (by omega) _ hs1, hfl] at hd
                      cases hd
              subst hij
              refine wpOp_mono (fun a'' w'' h'' => ?_) h'
              have hlow : ∀ (n : Nat) (l : List Bool), (∀ t, n ≤ t → t < l.length → l.getD t true = false) → l.length - n ≤ unl l := by
                intro n l
                induction l generalizing n with
                | nil => intro _; simp
                | cons b r ih =>
                  intro hb
                  cases n with
                  | zero =>
                    have h0 := hb 0 (Nat.le_refl _) (by simp)
                    have h1 := ih 0 (fun t _ ht => by have := hb (t + 1) (by omega) (by simpa using ht); simpa using this)
                    simp at h0
                    subst h0
                    simp [unl] at h1 ⊢; omega
                  | succ n =>
                    have h1 := ih n (fun t ht ht' => by have := hb (t + 1) (by omega) (by simpa using ht'); simpa using this)
                    simp only [unl, List.length_cons]; omega
              have hs2 : ((listed.setIfInBounds i true).setIfInBounds i' true).size = ops.size := by simpa using U.size
              have hrest : ∀ t, i + 1 ≤ t → t < ops.size → ((listed.setIfInBounds i true).setIfInBounds i' true).getD t true = false := fun t ht ht' => by
                rw [getD_set_other (by omega), getD_set_other (by omega)]; exact U.tail t (by omega) ht'
              have hn := hlow (i + 1) ((listed.setIfInBounds i true).setIfInBounds i' true).toList (fun t ht ht' => by
                rw [← getD_toList]; exact hrest t ht (by rw [Array.length_toList, hs2] at ht'; exact ht'))
              rw [Array.length_toList, hs2] at hn
              refine wpAny_tailF hB0 (ops.size - (i + 1)) (i + 1) _ a'' w'' (by omega) (by omega) (fun t ht => ?_) hs2 fu (by omega) h''
              by_cases h7 : i + 1 ≤ t
              · rw [hrest t h7 ht]; simp; omega
              · have e1 : ((listed.setIfInBounds i true).setIfInBounds i' true).getD t true = true := by
                  rw [gd t ht _ hs2]
                  by_cases h8 : i' = t
                  · subst h8
                    rw [getD_toList, Array.toList_setIfInBounds, List.getD_eq_getElem?_getD, List.getElem?_set, if_pos rfl, if_pos (by rw [Array.length_toList, hs1]; exact ht)]; rfl
                  · refine getD_set_true ?_
                    by_cases h9 : i = t
                    · subst h9
                      rw [getD_toList, Array.toList_setIfInBounds, List.getD_eq_getElem?_getD, List.getElem?_set, if_pos rfl, if_pos (by rw [Array.length_toList, U.size]; exact ht)]; rfl
                    · exact hall1 t (by omega) (fun e => h8 e.symm)
                rw [e1]; simp; omega
        obtain ⟨hds, hdp⟩ := hdepOk i o him ho
        have hdm : ∀ e ∈ o.after, Region.binds .any e = true → e.on < m := by
          intro e he hbind
          have hd := hdep e he hbind
          rcases Nat.lt_or_ge e.on m with h | h
          · exact h
          · exfalso
            rcases Nat.lt_or_ge e.on ops.size with h2 | h2
            · have := U.tail e.on h h2
              rw [getD_toList, List.getD_eq_getElem?_getD] at this hd
              cases hx : listed.toList[e.on]? with
              | none => rw [hx] at hd; simp at hd
              | some b => rw [hx] at hd this; simp at hd this; rw [hd] at this; cases this
            · rw [getD_toList, List.getD_eq_getElem?_getD, List.getElem?_eq_none (by have := U.size; simp; omega)] at hd
              simp at hd
        have next : ∀ v w', St w' → Keep w w' → G i (upd us o.dst v) w' → wpAny P .any ops Q fuel (listed.setIfInBounds i true) ((over a0 ds us).put o.dst v) w' := by
          intro v w' hst hk hg
          refine ih _ _ _ ?_ ⟨by simpa using U.size, ?_, ?_, hst, upd us o.dst v, over_put hds, ?_⟩
          · have := unl_set listed.toList i hil
            rw [Array.toList_setIfInBounds]; omega
          · intro j hj hj'
            rw [getD_set_other (by omega)]; exact U.tail j hj hj'
          · intro j oj hoj hlj e he hbind
            by_cases ej : i = j
            · subst ej
              rw [ho] at hoj
              cases hoj
              exact getD_set_true (hdep e he hbind)
            · rw [getD_set_other ej] at hlj
              exact getD_set_true (U.closed j oj hoj hlj e he hbind)
          · intro j hj hlj
            by_cases ej : i = j
            · subst ej; exact hg
            · rw [getD_set_other ej] at hlj
              refine hsup j us _ w' hj (fun t ht => ?_) (hkeep j us w w' hj hk (hG j hj hlj))
              symm
              refine upd_ne (fun hd => ?_)
              have hjs : j < ops.size := by omega
              obtain ⟨oj, hoj⟩ : ∃ oj, ops[j]? = some oj := ⟨ops[j], Array.getElem?_eq_getElem hjs⟩
              rcases (hdepOk j oj hj hoj).2 t ht i o ho hd with h | ⟨e, he, hbind, heq⟩
              · exact ej h
              · have := U.closed j oj hoj hlj e he hbind
                rw [heq, getD_toList, List.getD_eq_getElem?_getD, hil] at this
                simp at this
        have howes := howe i o him ho us w U.st (fun e he hbind => hG e.on (hdm e he hbind) (hdep e he hbind))
        unfold wpOp
        rw [ho]
        simp only
        by_cases hw : Region.wanted o (yielded ops (over a0 ds us).tmps) = true
        · rw [if_pos hw] at howes ⊢
          refine Or.inl (Oper.wp_mono (fun a' w' h => ?_) howes)
          obtain ⟨v, rfl, hst, hk, hg⟩ := h
          exact next v w' hst hk hg
        · rw [if_neg hw] at howes ⊢
          exact next undef w U.st (hrefl w) howes

theorem wp_region_rgF {P : Program} {id : Nat} {l : List Oper} {Q : Exit → Act → World → Prop} {a0 : Act} {w0 : World} (m f : Nat) (ds : List Nat) (sup : Nat → List Nat) (A : (Nat → Value) → Act) (G : Nat → (Nat → Value) → World → Prop) (St : World → Prop) (Keep : World → World → Prop)
    (hmix : P.follows .mixedOrders = true) (hB : rgOkF l.toArray m f ds sup = true) (hA : ∀ us, over a0 ds us = A us) (h0 : St w0.drew) (hrefl : ∀ w, Keep w w)
    (hkeep : ∀ j us w w', j < m → Keep w w' → G j us w → G j us w') (hsup : ∀ j us us' w, j < m → (∀ t ∈ sup j, us t = us' t) → G j us w → G j us' w)
    (hall : rgAll P l.toArray A G St Keep 0 (l.take m))
    (hend : ∀ us w, St w → (∀ j, j < m → G j us w) → wpList P l.toArray Q (l.drop m) (A us) w)
    (hend2 : ∀ us w, St w → (∀ j, j < m → j ≠ f → G j us w) → wpOps P l.toArray Q (m :: f :: List.range' (m + 1) (l.length - (m + 1))) (A us) w) : (Code.region id l.toArray true).wp P Q a0 w0 := by
  refine wp_region_any hmix ?_
  refine wpAny_headF (a0 := a0) (ds := ds) (G := G) (St := St) (Keep := Keep) hB hkeep hrefl hsup ?_ ?_ ?_ _ _ _ _ (by rw [Array.toList_replicate, unl_replicate]; exact Nat.le_refl _) ?_
  · intro i o hi ho us w hst hd
    have ho' : (l.take m)[i]? = some o := by rw [List.getElem?_take, if_pos hi]; simpa using ho
    have := rgAll_at _ 0 hall i o ho' us w hst hd
    rw [Nat.zero_add] at this
    rw [hA]
    by_cases hw : Region.wanted o (yielded l.toArray (A us).tmps) = true
    · rw [if_pos hw] at this ⊢
      exact wp_of_leaves (fun v w' h => ⟨v, rfl, h.1, h.2.1, h.2.2⟩) this
    · rw [if_neg hw] at this ⊢
      exact this
  · intro us w hst hg
    have := hend us w hst hg
    rw [hA]
    have e := wpOps_eq_wpList (P := P) (ops := l.toArray) (Q := Q) (l.drop m) m (fun j => by simp [List.getElem?_drop])
    rw [List.length_drop] at e
    have e2 : l.toArray.size - m = l.length - m := by simp
    rw [e2, e]
    exact this
  · intro us w hst hg
    have := hend2 us w hst hg
    rw [hA]
    simpa using this
  · refine ⟨by simp, ?_, ?_, h0, fun t => a0.tmps.getD t undef, ?_, ?_⟩
    · intro j _ hj
      rw [getD_toList, Array.toList_replicate, List.getD_eq_getElem?_getD, List.getElem?_replicate]
      simp at hj
      simp [hj]
    · intro j o _ hj
      rw [getD_toList, Array.toList_replicate, List.getD_eq_getElem?_getD, List.getElem?_replicate] at hj
      split at hj <;> simp at hj
    · unfold over
      cases a0 with
      | mk tmps defers =>
        congr 1
        apply Array.ext_getElem?
        intro i
        rw [Array.getElem?_mapIdx]
        cases hx : tmps[i]? with
        | none => rfl
        | some v =>
          simp only [Option.map_some, Array.getD_eq_getD_getElem?, hx, Option.getD_some]
          split <;> rfl
    · intro j _ hj
      rw [getD_toList, Array.toList_replicate, List.getD_eq_getElem?_getD, List.getElem?_replicate] at hj
      split at hj <;> simp at hj


/-- a store into a whole block, both ways -/
theorem wp_store_eq {P : Program} {o : Oper} {a : Act} {w : World} {K : Act → World → Prop} {Q : Exit → Act → World → Prop} (ty : TypeId) (x y : Operand) (ho : o.op = .store ty x y)
    (g : Nat) (cells : Array Value) (hx : a.eval x = .pointer (some ⟨g, 0, none⟩)) (hy : a.eval y = .agg cells)
    (t : TypeId) (old : Array Value) (hg : w.heap[g]? = some (.cells old t (0, 0))) (hi : (P.info? ty).map (·.size) = some cells.size)
    (hold : old.size = cells.size) (h1 : cells.all (·.oneCell') = true) : o.wp P a w K Q = K (a.put o.dst undef) (w.setRow g cells) := by
  unfold Oper.wp execOp
  simp only [ho, hx, hy, Instr.storeAt, Instr.sureAddr, Sem.run_bind, Sem.run_pure, Result.andThen_ok, run_storeVar_row w g t ty old cells hg hi hold h1]
  rfl

/-- **A REGION THAT DRAWS ITS ORDER, ITS TAIL A STORE BEHIND WHICH ONE OPERATION OF THE HEAD MAY COME.** -/
theorem wp_region_rsF {P : Program} {id : Nat} {l : List Oper} {Q : Exit → Act → World → Prop} {a0 : Act} {w0 : World} (f : Nat) (ds : List Nat) (A : (Nat → Value) → Act) {Keep : World → World → Prop} (sp : List (Sp Keep)) (St : World → Prop)
    (om of : Oper) (ty : TypeId) (x y : Operand) (df : Nat)
    (hmix : P.follows .mixedOrders = true) (hB : rgOkF l.toArray sp.length f ds (supOf l) = true) (hA : ∀ us, over a0 ds us = A us) (h0 : St w0.drew) (hrefl : ∀ w, Keep w w)
    (hom : l[sp.length]? = some om) (hof : l[f]? = some of) (hg1 : om.guard = none) (hd1 : om.dst = none) (ho1 : om.op = .store ty x y) (hg2 : of.guard = none) (hd2 : of.dst = some df)
    (hnd : ((List.range sp.length).all fun j => j == f || !(supOf l j).contains df) = true) (hdf : ds.contains df = true)
    (hxy : ∀ us v, (A (upd us (some df) v)).eval x = (A us).eval x ∧ (A (upd us (some df) v)).eval y = (A us).eval y)
    (hall : rsAll P l A sp St (l.take sp.length) sp)
    (hst2 : ∀ us w, St w → (∀ j, j < sp.length → j ≠ f → depHolds l sp us w j) → ∃ g cells t old, (A us).eval x = .pointer (some ⟨g, 0, none⟩) ∧ (A us).eval y = .agg cells ∧ w.heap[g]? = some (.cells old t (0, 0)) ∧ (P.info? ty).map (·.size) = some cells.size ∧ old.size = cells.size ∧ cells.all (·.oneCell') = true)
    (hfl : ∀ us w, St w → (∀ j, j < sp.length → j ≠ f → depHolds l sp us w j) → ∃ v, (∀ w', (execOp (A us).eval of).run P w' = .ok (.value v) w') ∧ depHolds l sp (upd us (some df) v) w f)
    (hend : ∀ us w, St w → (∀ j, j < sp.length → depHolds l sp us w j) → wpList P l.toArray Q (l.drop sp.length) (A us) w) : (Code.region id l.toArray true).wp P Q a0 w0 := by
  have hm : sp.length ≤ l.length := Nat.le_of_lt (List.getElem?_eq_some_iff.1 hom).1
  refine wp_region_rgF sp.length f ds (supOf l) A (fun i us w => depHolds l sp us w i) St Keep hmix hB hA h0 hrefl (fun j us w w' _ hk h => depHolds_kept hk h) (fun j us us' w _ he h => depHolds_sup he h) ?_ hend ?_
  · refine rg_of_rs _ _ 0 (by rw [List.length_take]; omega) (fun j hj => ?_) (fun j hj => ?_) (fun j _ => by simp) hall
    · have : j < (l.take sp.length).length := by
        apply Classical.byContradiction
        intro h
        rw [List.getElem?_eq_none (by omega)] at hj; cases hj
      rw [List.length_take] at this
      rw [Nat.zero_add, List.getElem?_take, if_pos (by omega)]
    · rw [List.length_take] at hj
      rw [Nat.zero_add, List.getElem?_take, if_pos (by omega)]
  · intro us w hst hd
    obtain ⟨v, hv, hvf⟩ := hfl us w hst hd
    obtain ⟨g, cells, t, old, e1, e2, e3, e4, e5, e6⟩ := hst2 us w hst hd
    have hd' : ∀ j, j < sp.length → depHolds l sp (upd us (some df) v) w j := by
      intro j hj
      by_cases e : j = f
      · subst e; exact hvf
      · refine depHolds_sup (fun t ht => ?_) (hd j hj e)
        have h1 := List.all_eq_true.1 hnd j (List.mem_range.2 hj)
        simp only [Bool.or_eq_true, beq_iff_eq, Bool.not_eq_true', e, false_or] at h1
        symm
        refine upd_ne (fun ht2 => ?_)
        obtain rfl := Option.some.inj ht2
        rw [List.contains_iff_mem.2 ht] at h1
        cases h1
    have h := hend _ w hst hd'
    have hcons : l.drop sp.length = om :: l.drop (sp.length + 1) := by
      obtain ⟨hl, he⟩ := List.getElem?_eq_some_iff.1 hom
      rw [← he]
      exact (List.getElem_cons_drop hl).symm
    rw [hcons] at h
    have hput : (A us).put of.dst v = A (upd us (some df) v) := by
      rw [← hA us, hd2, over_put (fun t ht => by cases ht; exact hdf), hA]
    have hrest : ∀ a w, wpOps P l.toArray Q (List.range' (sp.length + 1) (l.length - (sp.length + 1))) a w = wpList P l.toArray Q (l.drop (sp.length + 1)) a w := by
      intro a w
      have e := wpOps_eq_wpList (P := P) (ops := l.toArray) (Q := Q) (l.drop (sp.length + 1)) (sp.length + 1) (fun j => by simp [List.getElem?_drop])
      rw [List.length_drop] at e
      rw [e]
    have hx' := (hxy us v).1
    have hy' := (hxy us v).2
    have hex : execOp (A us).eval om = execOp (A (upd us (some df) v)).eval om := by
      unfold execOp
      simp only [ho1, hx', hy']
    have hom' : l.toArray[sp.length]? = some om := by simpa using hom
    have hof' : l.toArray[f]? = some of := by simpa using hof
    unfold wpList at h
    rw [if_pos (by simp [Region.wanted, hg1])] at h
    rw [wpOps_cons]
    unfold wpOp
    rw [hom']
    simp only
    rw [if_pos (by simp [Region.wanted, hg1])]
    rcases h with h | ⟨h, hq⟩
    · refine Or.inl ?_
      rw [wp_store_eq ty x y ho1 g cells (hx'.trans e1) (hy'.trans e2) t old e3 e4 e5 e6, hd1] at h
      rw [wp_store_eq ty x y ho1 g cells e1 e2 t old e3 e4 e5 e6, hd1]
      show wpOps P l.toArray Q (f :: _) (A us) _
      rw [wpOps_cons]
      unfold wpOp
      rw [hof']
      simp only
      rw [if_pos (by simp [Region.wanted, hg2])]
      refine Or.inl ?_
      unfold Oper.wp
      rw [hv]
      show wpOps P l.toArray Q _ ((A us).put of.dst v) _
      rw [hput, hrest]
      exact h
    · refine Or.inr ⟨?_, hq⟩
      unfold Oper.asks at h ⊢
      rw [hex]
      exact h

end Go.Proofs.YtlcglclojlffgaaGreat
namespace Go.Proofs.YtlcglclojlffgaaGreat
open Go.RowKit

theorem put_comm2 (a : Act) (i j : Nat) (u v : Value) (h : i ≠ j) : (a.put (some i) u).put (some j) v = (a.put (some j) v).put (some i) u := by
  cases a with
  | mk tmps defers =>
    simp only [Act.put]
    rw [Array.setIfInBounds_comm _ _ h]
/-- **A REGION THAT DRAWS ITS ORDER, ITS TAIL THE SETTING OF A SLOT BEHIND WHICH ONE OPERATION OF THE HEAD MAY COME.** -/
theorem wp_region_rsA {P : Program} {id : Nat} {l : List Oper} {Q : Exit → Act → World → Prop} {a0 : Act} {w0 : World} (f : Nat) (ds : List Nat) (A : (Nat → Value) → Act) {Keep : World → World → Prop} (sp : List (Sp Keep)) (St : World → Prop)
    (om of : Oper) (x : Operand) (df dm : Nat)
    (hmix : P.follows .mixedOrders = true) (hB : rgOkF l.toArray sp.length f ds (supOf l) = true) (hA : ∀ us, over a0 ds us = A us) (h0 : St w0.drew) (hrefl : ∀ w, Keep w w)
    (hom : l[sp.length]? = some om) (hof : l[f]? = some of) (hg1 : om.guard = none) (hd1 : om.dst = some dm) (ho1 : om.op = .assign x) (hg2 : of.guard = none) (hd2 : of.dst = some df) (hne : df ≠ dm)
    (hnd : ((List.range sp.length).all fun j => j == f || !(supOf l j).contains df) = true) (hdf : ds.contains df = true)
    (hxy : ∀ us v, (A (upd us (some df) v)).eval x = (A us).eval x)
    (hall : rsAll P l A sp St (l.take sp.length) sp)
    (hfl : ∀ us w, St w → (∀ j, j < sp.length → j ≠ f → depHolds l sp us w j) → ∃ v, (∀ u w', (execOp ((A us).put (some dm) u).eval of).run P w' = .ok (.value v) w') ∧ depHolds l sp (upd us (some df) v) w f)
    (hend : ∀ us w, St w → (∀ j, j < sp.length → depHolds l sp us w j) → wpList P l.toArray Q (l.drop sp.length) (A us) w) : (Code.region id l.toArray true).wp P Q a0 w0 := by
  have hm : sp.length ≤ l.length := Nat.le_of_lt (List.getElem?_eq_some_iff.1 hom).1
  refine wp_region_rgF sp.length f ds (supOf l) A (fun i us w => depHolds l sp us w i) St Keep hmix hB hA h0 hrefl (fun j us w w' _ hk h => depHolds_kept hk h) (fun j us us' w _ he h => depHolds_sup he h) ?_ hend ?_
  · refine rg_of_rs _ _ 0 (by rw [List.length_take]; omega) (fun j hj => ?_) (fun j hj => ?_) (fun j _ => by simp) hall
    · have : j < (l.take sp.length).length := by
        apply Classical.byContradiction
        intro h
        rw [List.getElem?_eq_none (by omega)] at hj; cases hj
      rw [List.length_take] at this
      rw [Nat.zero_add, List.getElem?_take, if_pos (by omega)]
    · rw [List.length_take] at hj
      rw [Nat.zero_add, List.getElem?_take, if_pos (by omega)]
  · intro us w hst hd
    obtain ⟨v, hv, hvf⟩ := hfl us w hst hd
    have hd' : ∀ j, j < sp.length → depHolds l sp (upd us (some df) v) w j := by
      intro j hj
      by_cases e : j = f
      · subst e; exact hvf
      · refine depHolds_sup (fun t ht => ?_) (hd j hj e)
        have h1 := List.all_eq_true.1 hnd j (List.mem_range.2 hj)
        simp only [Bool.or_eq_true, beq_iff_eq, Bool.not_eq_true', e, false_or] at h1
        symm
        refine upd_ne (fun ht2 => ?_)
        obtain rfl := Option.some.inj ht2
        rw [List.contains_iff_mem.2 ht] at h1
        cases h1
    have h := hend _ w hst hd'
    have hcons : l.drop sp.length = om :: l.drop (sp.length + 1) := by
      obtain ⟨hl, he⟩ := List.getElem?_eq_some_iff.1 hom
      rw [← he]
      exact (List.getElem_cons_drop hl).symm
    rw [hcons] at h
    have hput : (A us).put of.dst v = A (upd us (some df) v) := by
      rw [← hA us, hd2, over_put (fun t ht => by cases ht; exact hdf), hA]
    have hrest : ∀ a w, wpOps P l.toArray Q (List.range' (sp.length + 1) (l.length - (sp.length + 1))) a w = wpList P l.toArray Q (l.drop (sp.length + 1)) a w := by
      intro a w
      have e := wpOps_eq_wpList (P := P) (ops := l.toArray) (Q := Q) (l.drop (sp.length + 1)) (sp.length + 1) (fun j => by simp [List.getElem?_drop])
      rw [List.length_drop] at e
      rw [e]
    have hx' := hxy us v
    have hrun : ∀ (a : Act) (w : World), (execOp a.eval om).run P w = .ok (.value (a.eval x)) w := by
      intro a w
      unfold execOp
      simp only [ho1]
      rfl
    have hom' : l.toArray[sp.length]? = some om := by simpa using hom
    have hof' : l.toArray[f]? = some of := by simpa using hof
    unfold wpList at h
    rw [if_pos (by simp [Region.wanted, hg1])] at h
    rw [wpOps_cons]
    unfold wpOp
    rw [hom']
    simp only
    rw [if_pos (by simp [Region.wanted, hg1])]
    rcases h with h | ⟨h, hq⟩
    · refine Or.inl ?_
      unfold Oper.wp at h ⊢
      rw [hrun] at h ⊢
      rw [hx'] at h
      show wpOps P l.toArray Q (f :: _) ((A us).put om.dst _) _
      rw [wpOps_cons]
      unfold wpOp
      rw [hof']
      simp only
      rw [if_pos (by simp [Region.wanted, hg2])]
      refine Or.inl ?_
      unfold Oper.wp
      rw [hd1, hv]
      show wpOps P l.toArray Q _ (((A us).put (some dm) _).put of.dst v) _
      rw [hd2, put_comm2 _ _ _ _ _ hne.symm, ← hd2, hput, hrest]
      have h2 : wpList P l.toArray Q (l.drop (sp.length + 1)) ((A (upd us (some df) v)).put om.dst ((A us).eval x)) w := h
      rw [hd1] at h2
      exact h2
    · refine Or.inr ⟨?_, hq⟩
      have hex : execOp (A us).eval om = execOp (A (upd us (some df) v)).eval om := by
        unfold execOp
        simp only [ho1, hx']
      unfold Oper.asks at h ⊢
      rw [hex]
      exact h

end Go.Proofs.YtlcglclojlffgaaGreat
namespace Go.Proofs.YtlcglclojlffgaaGreat
open Go.RowKit

/-- two polynomials of the region's own, in a pair -/
def QRV (B : Nat) (u v : List Nat) (x : Value) (W : World) : Prop := ∃ a c a' c', x = .tuple #[.slice a u.length c, .slice a' v.length c'] ∧ OwnI W B (.slice a u.length c) (natI u) ∧ OwnI W B (.slice a' v.length c') (natI v)
def spQR (B : Nat) (u v : List Nat) : Sp KB := ⟨QRV B u v, fun _ _ _ hk ⟨a, c, a', c', e, h1, h2⟩ => ⟨a, c, a', c', e, h1.grown hk, h2.grown hk⟩⟩
theorem own_nat {W : World} {B : Nat} {v : Value} {l : List Nat} (h : OwnI W B v (natI l)) : (spOwn B (natI l)).holds v W := h

set_option maxRecDepth 100000 in
set_option maxHeartbeats 4000000 in
theorem spEnc_any (F : Fd) (hF : FdR F) (len chk : Nat) (a : Option Addr) (m : List Nat) (n c : Nat) (w : World) (hn : n = m.length) (h1 : len = m.length + chk) (hc : 1 ≤ chk) (hc2 : chk ≤ 64) (hl : len ≤ 255) (hM : AllE F m) (hx : IntsAt w a (natI m)) (hs : Slc a (natI m)) :
    Calls Tryz.prog 61 #[cdV F (len : Int) chk, .slice a n c] w (RetSl w (natI (encW F len chk m))) := by
  subst hn
  have HF := Lib.hid hF
  have HM := Lib.hid hM
  have HXm := Lib.hid hx
  have HS := Lib.hid hs
  have HL := Lib.hid h1
  have hml : m.length < len := by omega
  have HX := Lib.hid (push_at w (.cells (cdC F len chk) 73 (0, 0)))
  have HB0 := Lib.hid (ba1 w (.cells (cdC F len chk) 73 (0, 0)))
  obtain ⟨w1, hw1⟩ : ∃ w1, w1 = w.alloc (.cells (cdC F len chk) 73 (0, 0)) := ⟨_, rfl⟩
  have HW1 := Lib.hid hw1
  rw [← hw1] at HX HB0
  have hs1 : w1.heap.size = w.heap.size + 1 := by rw [hw1]; simp
  have hmk := make_i len (by omega)
  have HO := Lib.hid (ownI_made' w1 len (by omega))
  rw [hs1] at HO
  clear hF hw1 hM hx hs h1
  go_enter Tryz.func61, Tryz.ntmps61
  go_wp2_with fail
  rw [← HW1.out]
  clear hmk
  go_loopw [6] (fun i wr => ∃ k : Nat, k ≤ m.length ∧ i = .int .i64 k ∧ OwnI wr (w.heap.size + 1) (.slice (some ⟨w.heap.size + 1, 0, none⟩) len len) (natI (pTo len m k)) ∧ Below w1.heap.size w1 wr) (fun i _ => m.length - (intOf i).toNat)
  case atStart => exact ⟨0, Nat.zero_le _, rfl, by simpa [pTo, natI_rep] using HO.out, ba1 _ _⟩
  case round =>
    obtain ⟨k, hk, rfl, ho, hb⟩ := hrel
    have HO1 := Lib.hid ho
    have HB1 := Lib.hid hb
    have K := Lib.hid (blkK hb HX.out)
    obtain ⟨hx0, hx1, hx2, hx3, hx4⟩ := three_at K.out
    have hltA := blkLt K.out
    clear ho hb
    by_cases hlt : k < m.length
    · obtain ⟨b1, o1, e1, hb1, hcx⟩ := co_at ((HXm.out.below HB0.out).below HB1.out) hlt
      have hpl : (natI (pTo len m k)).length = len := by rw [natI_len, pTo_len hk (by omega)]
      obtain ⟨z, hz, hcz, hfz⟩ := HO1.out.cellAt (k := len - 1 - k) hpl.symm (by omega)
      have HPS := Lib.hid (pTo_step hlt (Nat.le_of_lt hml))
      have hki : (k : Int) < (m.length : Int) := by omega
      have hix : (len : Int) - 1 - (k : Int) = ((len - 1 - k : Nat) : Int) := by omega
      have hix2 : ((len - 1 - k : Nat) : Int) < (len : Int) := by omega
      have HPL := Lib.hid hpl
      have hwr : w.heap.size + 1 < wr.heap.size := HO1.out.hi _ rfl
      subst e1
      clear hz hpl
      go_wp2_with fail
      refine wp_region_ext_tail 10 (by kernel_rfl) (by kernel_rfl) ?_
      simp only [List.take_succ_cons, List.take_zero, List.drop_succ_cons, List.drop_zero]
      repeat (go_big_quiet_step (fail))
      refine wpQuiet_nil ?_
      rintro _ ⟨s, rfl⟩
      go_wp2_with fail
      refine ⟨⟨k + 1, by omega, by go_num, ?_, (bt0 HB1.out s.below (by omega)).setCell (Nat.le_of_eq hs1) _⟩, by simp [intOf]; omega⟩
      have h := ((HO1.out.grown s.below).stored HPL.out.symm (len - 1 - k) ((co m k : Nat) : Int)).1
      rw [← natI_set, HPS.out] at h
      exact h
    · obtain rfl : k = m.length := by omega
      have hki : ¬ ((m.length : Nat) : Int) < (m.length : Int) := by omega
      obtain ⟨P, hP⟩ : ∃ P, P = pTo len m m.length := ⟨_, rfl⟩
      have HPe := Lib.hid hP
      have HPA := Lib.hid (show AllE F P by rw [hP]; exact pTo_all HF.out.fit.q3 HM.out _)
      have HPl := Lib.hid (show P.length = len by rw [hP, pTo_len (Nat.le_refl _) (by omega)])
      rw [← hP] at HO1
      have HPI := Lib.hid (cut_own HO1.out)
      have HTA := Lib.hid (show AllE F (trimN P) from HPA.out.take _)
      have HTL := Lib.hid (show (trimN P).length ≤ 1000 by have := trimN_le P; have := HPl.out; omega)
      have HG := Lib.hid (genP_top HF.out.runs HF.out.fit chk)
      have HGA := Lib.hid (genP_all HF.out.runs HF.out.fit chk)
      have HGL := Lib.hid (show (genP F chk).length ≤ 1000 ∧ 1 ≤ (genP F chk).length ∧ F.IsInv (co (genP F chk) ((genP F chk).length - 1)) 1 by
        rw [HG.out.1, Nat.add_sub_cancel, HG.out.2]
        exact ⟨by omega, by omega, F.isInv_one HF.out.fit⟩)
      have hsr : w.heap.size ≤ wr.heap.size := by have := HB1.out.size; omega
      clear hP
      go_wp2_with fail
      refine wp_region_rsA (Keep := KB) 9 [32, 33, 34, 35, 36, 37, 38, 31, 39, 40] (fun us => _)
        [spE (.pointer (some ⟨w.heap.size, 0, none⟩)),
         spE (fV F),
         spE (.slice (some ⟨w.heap.size + 1, 0, none⟩) len len),
         spOwn w.heap.size (natI (trimN P)),
         spE (cdV F (len : Int) chk),
         spOwn w.heap.size (natI (genP F chk)),
         spQR w.heap.size (pQuo F (trimN P) (genP F chk) 1) (pRem F (trimN P) (genP F chk) 1),
         spQR w.heap.size (pQuo F (trimN P) (genP F chk) 1) (pRem F (trimN P) (genP F chk) 1),
         spOwn w.heap.size (natI (pQuo F (trimN P) (genP F chk) 1)),
         spOwn w.heap.size (natI (pRem F (trimN P) (genP F chk) 1))]
        (StX wr) _ _ _ 40 7 (by kernel_rfl) (by kernel_rfl) (fun us => by simp [over, List.mapIdx_cons]; exact rfl) (stX0 _) kbr rfl rfl rfl rfl rfl rfl rfl (by decide) (by kernel_rfl) (by kernel_rfl) (fun us v => by exact rfl) ?_ ?_ ?_
      · refine ⟨?_, ?_, ?_, ?_, ?_, ?_, ?_, ?_, ?_, ?_, trivial⟩
        all_goals (intro us wx hst hd; rw [if_pos (by kernel_rfl)]; dsimp only)
        · clear hd
          go_simp
          exact kb_same hst rfl
        · have d32 : us 32 = (.pointer (some ⟨w.heap.size, 0, none⟩)) := hd ⟨0, .data⟩ (by simp) rfl
          clear hd
          have hW0 := below_cell hst hx0
          have hW1 := below_cell hst hx1
          have hW2 := below_cell hst hx2
          go_simp
          exact kb_same hst rfl
        · clear hd
          go_simp
          exact kb_same hst rfl
        · have d34 : us 34 = (.slice (some ⟨w.heap.size + 1, 0, none⟩) len len) := hd ⟨2, .data⟩ (by simp) rfl
          clear hd
          go_simp
          exact (spTrim_any (some ⟨w.heap.size + 1, 0, none⟩) P len len wx HPl.out.symm (HPI.out.1.below hst) (Nat.le_of_eq HPl.out) (by have := HPl.out; omega) rfl HPI.out.2).mono fun e w' ⟨a', c', he, ho, hb⟩ => ⟨_, he, kb_below hst hb (ho.weak (Nat.le_trans hsr hst.size))⟩
        · clear hd
          have hW0 := below_cell hst hx0
          have hW1 := below_cell hst hx1
          have hW2 := below_cell hst hx2
          have hW3 := below_cell hst hx3
          have hW4 := below_cell hst hx4
          go_simp
          exact kb_same hst rfl
        · have d36 : us 36 = (cdV F (len : Int) chk) := hd ⟨4, .data⟩ (by simp) rfl
          clear hd
          go_simp
          exact (spGenP_any F HF.out (len : Int) chk wx hc2).mono fun e w' ⟨a', c', he, ho, hb⟩ => ⟨_, he, kb_below hst hb (ho.weak (Nat.le_trans hsr hst.size))⟩
        · have d33 : us 33 = (fV F) := hd ⟨1, .data⟩ (by simp) rfl
          have d35 := hd ⟨3, .data⟩ (by simp) rfl
          have d37 := hd ⟨5, .data⟩ (by simp) rfl
          clear hd
          have h35 : OwnI wx w.heap.size (us 35) (natI (trimN P)) := d35
          have h37 : OwnI wx w.heap.size (us 37) (natI (genP F chk)) := d37
          obtain ⟨a5, c5, e5, h5⟩ := h35.read
          obtain ⟨a7, c7, e7, h7⟩ := h37.read
          rw [e5] at h35
          have s5 := OwnI.slc h35
          rw [natI_len] at e5 e7
          clear d35 d37 h35 h37
          go_simp
          exact (spPDiv_any F HF.out 1 a5 a7 (trimN P) (genP F chk) _ _ c5 c7 wx rfl rfl h5 h7 s5 HTA.out HGA.out HTL.out HGL.out.1 HGL.out.2.1 HGL.out.2.2).mono fun e w' ⟨a8, c8, a9, c9, he, ho8, ho9, hb⟩ => ⟨_, he, kb_below hst hb ⟨a8, c8, a9, c9, rfl, ho8.weak (Nat.le_trans hsr hst.size), ho9.weak (Nat.le_trans hsr hst.size)⟩⟩
        · have d38 := hd ⟨6, .data⟩ (by simp) rfl
          clear hd
          go_simp
          exact kb_same hst d38
        · have d31 := hd ⟨7, .data⟩ (by simp) rfl
          clear hd
          obtain ⟨a5, c5, a6, c6, e31, ho5, -⟩ : QRV w.heap.size (pQuo F (trimN P) (genP F chk) 1) (pRem F (trimN P) (genP F chk) 1) (us 31) wx := d31
          go_simp
          exact kb_same hst (own_nat ho5)
        · have d31 := hd ⟨7, .data⟩ (by simp) rfl
          clear hd
          obtain ⟨a5, c5, a6, c6, e31, -, ho6⟩ : QRV w.heap.size (pQuo F (trimN P) (genP F chk) 1) (pRem F (trimN P) (genP F chk) 1) (us 31) wx := d31
          go_simp
          exact kb_same hst (own_nat ho6)
      · intro us wx hst hd
        have d31 : QRV w.heap.size (pQuo F (trimN P) (genP F chk) 1) (pRem F (trimN P) (genP F chk) 1) (us 31) wx := hd 7 (by simp) (by decide)
        obtain ⟨a5, c5, a6, c6, e31, -, ho6⟩ := d31
        have HO6 := Lib.hid ho6
        clear hd ho6
        refine ⟨.slice a6 (pRem F (trimN P) (genP F chk) 1).length c6, fun u w' => ?_, (show OwnI wx w.heap.size (.slice a6 (pRem F (trimN P) (genP F chk) 1).length c6) (natI (pRem F (trimN P) (genP F chk) 1)) from HO6.out)⟩
        go_simp
        try rfl
      · intro us wx hst hd
        have d39 := hd 8 (by simp)
        have d40 := hd 9 (by simp)
        clear hd
        simp only [List.drop, List.length]
        rw []
        obtain ⟨U, hU⟩ : ∃ U, U = us 39 := ⟨_, rfl⟩
        obtain ⟨R, hR⟩ : ∃ R, R = pRem F (trimN P) (genP F chk) 1 := ⟨_, rfl⟩
        have h40 : OwnI wx w.heap.size (us 40) (natI (pRem F (trimN P) (genP F chk) 1)) := d40
        rw [← hR] at h40
        obtain ⟨a6, c6, e40, -⟩ := h40.read
        rw [e40] at h40 ⊢
        have ho6 := h40
        rw [natI_len] at ho6 ⊢
        rw [← hU]
        clear d39 d40 h40
        have HRe := Lib.hid hR
        have HRI := Lib.hid ho6.ints
        have HBx := Lib.hid (bt0 (bt0 HB0.out HB1.out (by omega)) hst (by omega))
        have Kx := Lib.hid (blkK hst K.out)
        have HLO := Lib.hid (l01Own_any a (natI m) c wx (HXm.out.below HBx.out) (by rw [natI_len]; omega) HS.out)
        rw [natI_len] at HLO
        have hwx : w.heap.size ≤ wx.heap.size := HBx.out.size
        clear hst hR hU ho6 e40 hx0 hx1 hx2 hx3 hx4 hltA K hsr
        go_wp2_with fail
        refine HLO.out.mono ?_
        rintro e w7 ⟨a7, c7, rfl, ho7, hb7⟩
        have HO7 := Lib.hid ho7
        have HB7 := Lib.hid hb7
        have K7 := Lib.hid (blkK hb7 Kx.out)
        obtain ⟨hx0, hx1, hx2, hx3, hx4⟩ := three_at K7.out
        have hltA := blkLt K7.out
        clear ho7 hb7 HLO
        go_wp2_with fail
        clear hx0 hx1 hx2 hx3 hx4 hltA
        obtain ⟨wq, rfl⟩ : ∃ wq : World, wq = wx := ⟨_, rfl⟩
        go_loopw [9, 10] (fun v i wr => ∃ (k : Nat) (a8 : Option Addr) (c8 : Nat) (l8 : List Int), k ≤ chk ∧ i = .int .i64 ((k : Int) - 1) ∧ l8 = natI (m ++ chkTo F R chk (chk - k)) ∧ v = .slice a8 l8.length c8 ∧ OwnI wr wq.heap.size (.slice a8 l8.length c8) l8 ∧ Below wq.heap.size wq wr) (fun _ i _ => ((intOf i) + 1).toNat)
        case atStart => exact ⟨chk, a7, c7, _, Nat.le_refl _, rfl, by rw [Nat.sub_self, chkTo, List.append_nil], rfl, HO7.out, HB7.out⟩
        case round =>
          obtain ⟨k, a8, c8, l8, hk, rfl, hl8, rfl, ho, hb⟩ := hrel
          have HL8 := Lib.hid hl8
          have HO8 := Lib.hid ho
          have HBr := Lib.hid hb
          have K8 := Lib.hid (blkK hb Kx.out)
          obtain ⟨hx0, hx1, hx2, hx3, hx4⟩ := three_at K8.out
          have hltA := blkLt K8.out
          clear ho hb hl8
          rcases k with - | k
          · have e1 : (((0 : Nat) : Int) - 1) = -1 := by omega
            rw [e1]
            clear e1
            have HEE := Lib.hid (show l8 = natI (encW F len chk m) by rw [HL8.out, Nat.sub_zero, encW_eq, HRe.out, HPe.out])
            clear hx0 hx1 hx2 hx3 hx4 hltA
            go_wp2_with fail
            go_ret
            rw [← HEE.out]
            exact ⟨a8, c8, rfl, HO8.out.weak hwx, bt0 HBx.out HBr.out (Nat.le_refl _)⟩
          · have e1 : (((k + 1 : Nat) : Int) - 1) = (k : Int) := by omega
            rw [e1]
            clear e1
            have hBr' := HBr.out
            have hsr : w.heap.size ≤ wr.heap.size := by have := hBr'.size; omega
            have hk0 : ¬ (k : Int) < 0 := by omega
            have HST := Lib.hid (show natI (m ++ chkTo F R chk (chk - k)) = l8 ++ [((F.neg (co R k) : Nat) : Int)] by
              rw [HL8.out, show chk - k = (chk - (k + 1)) + 1 by omega, chkTo, show chk - 1 - (chk - (k + 1)) = k by omega, ← List.append_assoc, natI_app]
              rfl)
            have hll : l8.length ≤ 1000 := by
              rw [HL8.out, natI_len, List.length_append, chkTo_len]; omega
            go_wp2_with fail
            refine wp_region_rt (Keep := KB) [50, 51, 52, 53, 54, 55, 56, 57] (fun us => _)
              [spE (.slice a8 l8.length c8),
               spE (.pointer (some ⟨w.heap.size, 0, none⟩)),
               spE (fV F),
               spE (.slice a6 R.length c6),
               spE (.int .i64 (k : Int)),
               spE (.int .i64 ((co R k : Nat) : Int)),
               spE (.int .i64 ((F.neg (co R k) : Nat) : Int)),
               spSlN w.heap.size 1 #[.int .i64 ((F.neg (co R k) : Nat) : Int)] 2]
              (StX wr) (by kernel_rfl) (by kernel_rfl) (Nat.le_of_ble_eq_true rfl) (fun us => by simp [over, List.mapIdx_cons]; exact rfl) (stX0 _) kbr ?_ ?_
            · refine ⟨?_, ?_, ?_, ?_, ?_, ?_, ?_, ?_, trivial⟩
              all_goals (intro us wx hst hd; rw [if_pos (by kernel_rfl)]; dsimp only)
              · clear hd
                go_simp
                exact kb_same hst rfl
              · clear hd
                go_simp
                exact kb_same hst rfl
              · have d51 : us 51 = (.pointer (some ⟨w.heap.size, 0, none⟩)) := hd ⟨1, .data⟩ (by simp) rfl
                clear hd
                have hW0 := below_cell hst hx0
                have hW1 := below_cell hst hx1
                have hW2 := below_cell hst hx2
                go_simp
                exact kb_same hst rfl
              · clear hd
                go_simp
                exact kb_same hst rfl
              · clear hd
                go_simp
                exact kb_same hst rfl
              · have d53 : us 53 = (.slice a6 R.length c6) := hd ⟨3, .data⟩ (by simp) rfl
                have d54 : us 54 = (.int .i64 (k : Int)) := hd ⟨4, .data⟩ (by simp) rfl
                clear hd
                go_simp
                exact (spAt_any a6 R c6 _ k wx rfl ((HRI.out.below hBr').below hst) (by omega)).mono fun e w' ⟨he, hw⟩ => ⟨_, he, kb_below hst (hw ▸ Below.refl _ _) rfl⟩
              · have d52 : us 52 = (fV F) := hd ⟨2, .data⟩ (by simp) rfl
                have d55 : us 55 = (.int .i64 ((co R k : Nat) : Int)) := hd ⟨5, .data⟩ (by simp) rfl
                clear hd
                go_simp
                exact (spNeg_any F HF.out.toFdB _ wx).mono fun e w' ⟨he, hb⟩ => ⟨_, he, kb_below hst hb rfl⟩
              · have d56 : us 56 = (.int .i64 ((F.neg (co R k) : Nat) : Int)) := hd ⟨6, .data⟩ (by simp) rfl
                clear hd
                go_simp
                exact sln_new hst hsr
            · intro us wx hst hd
              have d50 : us 50 = (.slice a8 l8.length c8) := hd 0 (by simp)
              have d57 := hd 7 (by simp)
              clear hd
              simp only [List.drop, List.length]
              rw [d50]

              obtain ⟨gx, hgx, -, hgx2⟩ := d57
              rw [hgx]
              have HOx := Lib.hid (HO8.out.grown hst)
              have hsx := hst.size
              have HBxx := Lib.hid (bt0 HBr.out hst (Nat.le_refl _))
              refine wpList_append_i1 rfl (.tmp 50) (.tmp 57) 24 Tryz.underlying24 rfl wq.heap.size (.slice a8 l8.length c8) l8 _ rfl HOx.out gx rfl hgx2 (by omega) (by have := HBxx.out.size; omega) ?_
              intro a9 c9 l9 w9 he9 ho9 hg9 hb9
              have HE9 := Lib.hid he9
              have HO9 := Lib.hid ho9
              have HB9 := Lib.hid (HBxx.out.trans hb9)
              clear he9 ho9 hg9 hb9 hst hgx2 hx0 hx1 hx2 hx3 hx4 hltA hBr'
              go_wp2_with fail
              exact ⟨⟨k, a9, c9, l9, by omega, rfl, by rw [HE9.out, HST.out], rfl, HO9.out, HB9.out⟩, by simp [intOf]⟩

end Go.Proofs.YtlcglclojlffgaaGreat
namespace Go.Proofs.YtlcglclojlffgaaGreat

/-- how many data elements a block has; how many the blocks before it have -/
def shN (data cnt b : Nat) : Nat := data / cnt + if cnt - data % cnt ≤ b then 1 else 0
def frN (data cnt b : Nat) : Nat := b * (data / cnt) + (b - (cnt - data % cnt))
theorem frN_zero (data cnt : Nat) : frN data cnt 0 = 0 := by simp [frN]
theorem frN_step (data cnt b : Nat) : frN data cnt (b + 1) = frN data cnt b + shN data cnt b := by
  unfold frN shN
  rw [Nat.add_mul, Nat.one_mul]
  split <;> omega
theorem frN_all (data cnt : Nat) (h : 1 ≤ cnt) : frN data cnt cnt = data := by
  unfold frN
  have h1 := Nat.div_add_mod data cnt
  have h2 := Nat.mod_lt data (show 0 < cnt by omega)
  omega
theorem frN_mono (data cnt : Nat) : ∀ (b c : Nat), b ≤ c → frN data cnt b ≤ frN data cnt c
  | b, c, h => by
    obtain ⟨d, rfl⟩ := Nat.exists_eq_add_of_le h
    induction d with
    | zero => exact Nat.le_refl _
    | succ d ih =>
      have := frN_step data cnt (b + d)
      have := ih (by omega)
      rw [← Nat.add_assoc]
      omega
theorem shN_mono (data cnt : Nat) {b c : Nat} (h : b ≤ c) : shN data cnt b ≤ shN data cnt c := by
  unfold shN; repeat' split
  all_goals omega
theorem shN_le (data cnt b : Nat) (h : 1 ≤ cnt) (hb : b < cnt) : shN data cnt b ≤ data := by
  have h1 := frN_step data cnt b
  have h2 := frN_mono data cnt (b + 1) cnt hb
  rw [frN_all data cnt h] at h2
  omega
theorem shN_pos (data cnt b : Nat) (h : 1 ≤ cnt) (hd : cnt ≤ data) : 1 ≤ shN data cnt b := by
  have := Nat.div_pos hd (by omega)
  unfold shN; omega
theorem share_nat (d c n b : Nat) (hn : 1 ≤ n) : Lay.share ⟨d, c, n⟩ b = (shN d n b : Nat) := by
  have h := Nat.mod_lt d (show 0 < n by omega)
  simp only [Lay.share, shN]
  have e1 : ((d : Int) / (n : Int)) = ((d / n : Nat) : Int) := by push_cast; rfl
  have e2 : ((d : Int) % (n : Int)) = ((d % n : Nat) : Int) := by push_cast; rfl
  rw [e1, e2]
  push_cast
  congr 1
  by_cases hb : n - d % n ≤ b
  · rw [if_pos hb, if_pos (by omega)]; rfl
  · rw [if_neg hb, if_neg (by omega)]; rfl

/-- a row of data elements: the first m blocks; all rows; the checks -/
def ordR (sh : Nat → Nat) (e m : Nat) : List (Nat × Nat) := ((List.range m).filter fun b => decide (e < sh b)).map fun b => (b, e)
def ordD (sh : Nat → Nat) (cnt n : Nat) : List (Nat × Nat) := (List.range n).flatMap fun e => ordR sh e cnt
def ordS (sh : Nat → Nat) (e m : Nat) : List (Nat × Nat) := (List.range m).map fun b => (b, sh b + e)
def ordE (sh : Nat → Nat) (cnt n : Nat) : List (Nat × Nat) := (List.range n).flatMap fun e => ordS sh e cnt
/-- the blocks and elements of the stream, in order -/
def ordC (sh : Nat → Nat) (cnt chk : Nat) : List (Nat × Nat) := ordD sh cnt (sh (cnt - 1)) ++ ordE sh cnt chk
theorem ordR_yes {sh : Nat → Nat} {e m : Nat} (h : e < sh m) : ordR sh e (m + 1) = ordR sh e m ++ [(m, e)] := by
  unfold ordR
  rw [List.range_succ, List.filter_append, List.map_append]
  simp [h]
theorem ordR_no {sh : Nat → Nat} {e m : Nat} (h : ¬ e < sh m) : ordR sh e (m + 1) = ordR sh e m := by
  unfold ordR
  rw [List.range_succ, List.filter_append, List.map_append]
  simp [h]
theorem ordD_step (sh : Nat → Nat) (cnt n : Nat) : ordD sh cnt (n + 1) = ordD sh cnt n ++ ordR sh n cnt := by
  unfold ordD
  rw [List.range_succ, List.flatMap_append]
  simp
theorem ordS_step (sh : Nat → Nat) (e m : Nat) : ordS sh e (m + 1) = ordS sh e m ++ [(m, sh m + e)] := by
  unfold ordS
  rw [List.range_succ, List.map_append]
  rfl
theorem ordE_step (sh : Nat → Nat) (cnt n : Nat) : ordE sh cnt (n + 1) = ordE sh cnt n ++ ordS sh n cnt := by
  unfold ordE
  rw [List.range_succ, List.flatMap_append]
  simp
theorem ordR_nil {sh : Nat → Nat} {e cnt : Nat} (hm : ∀ b, b < cnt → sh b ≤ e) : ordR sh e cnt = [] := by
  unfold ordR
  rw [List.filter_eq_nil_iff.2]
  · rfl
  · intro b hb
    have := hm b (by simpa using hb)
    simp; omega
/-- more rows than the longest block has are empty -/
theorem ordD_more {sh : Nat → Nat} {cnt n : Nat} (hm : ∀ b, b < cnt → sh b ≤ n) : ∀ d, ordD sh cnt (n + d) = ordD sh cnt n
  | 0 => rfl
  | d + 1 => by
    rw [← Nat.add_assoc, ordD_step, ordD_more hm d, ordR_nil (fun b hb => by have := hm b hb; omega), List.append_nil]
theorem ordR_len (sh : Nat → Nat) (e m : Nat) : (ordR sh e m).length ≤ m := by
  unfold ordR
  rw [List.length_map]
  refine Nat.le_trans (List.length_filter_le _ _) ?_
  simp
theorem ordD_len (sh : Nat → Nat) (cnt : Nat) : ∀ n, (ordD sh cnt n).length ≤ n * cnt
  | 0 => by simp [ordD]
  | n + 1 => by
    rw [ordD_step, List.length_append, Nat.add_mul, Nat.one_mul]
    have := ordD_len sh cnt n
    have := ordR_len sh n cnt
    omega
theorem ordE_len (sh : Nat → Nat) (cnt : Nat) : ∀ n, (ordE sh cnt n).length = n * cnt
  | 0 => by simp [ordE]
  | n + 1 => by
    rw [ordE_step, List.length_append, Nat.add_mul, Nat.one_mul, ordE_len sh cnt n]
    simp [ordS]
/-- each of them names a block and an element of its word -/
theorem ordC_in {sh : Nat → Nat} {cnt chk : Nat} {p : Nat × Nat} (h : p ∈ ordC sh cnt chk) : p.1 < cnt ∧ p.2 < sh p.1 + chk := by
  rcases List.mem_append.1 h with h | h
  · obtain ⟨e, _, h2⟩ := List.mem_flatMap.1 h
    obtain ⟨b, hb, rfl⟩ := List.mem_map.1 h2
    rw [List.mem_filter] at hb
    have h3 := hb.2
    have h4 : b < cnt := by simpa using hb.1
    simp at h3
    exact ⟨h4, by show e < sh b + chk; omega⟩
  · obtain ⟨e, he, h2⟩ := List.mem_flatMap.1 h
    obtain ⟨b, hb, rfl⟩ := List.mem_map.1 h2
    rw [List.mem_range] at hb he
    exact ⟨hb, by show sh b + e < sh b + chk; omega⟩

/-- the word of a block; the stream of some data -/
def wordC (F : Fd) (data cnt chk : Nat) (xs : List Nat) (b : Nat) : List Nat :=
  encW F (shN data cnt b + chk) chk ((xs.drop (frN data cnt b)).take (shN data cnt b))
def strC (F : Fd) (data cnt chk : Nat) (xs : List Nat) : List Nat :=
  (ordC (shN data cnt) cnt chk).map fun p => co (wordC F data cnt chk xs p.1) p.2

end Go.Proofs.YtlcglclojlffgaaGreat
namespace Go.Proofs.YtlcglclojlffgaaGreat
open Go.RowKit

theorem Meth.at {T : TypeId} {r : Value} {name : String} {f : FuncId} (h : Meth T r name f) (n : Nat) (W : World) (hn : 0 < n) : Sem.run Tryz.prog (method n T r name) W = .ok (f, r) W := by
  obtain ⟨k, rfl⟩ : ∃ k, n = k + 1 := ⟨n - 1, by omega⟩
  exact h.1 k W
theorem invoke_run0 {a : Act} {o : Oper} (k : Nat) (name : String) (tys : Array TypeId) (ho : o.op = .call { callee := .invoke (.tmp k) name, args := #[], argTypes := tys }) (T : TypeId) (r : Value) (f : FuncId) (hx : a.eval (.tmp k) = .iface T r) (hm : Meth T r name f) (w : World) :
    (execOp a.eval o).run Tryz.prog w = .ok (.enter f #[r]) w := by
  simp only [Act.eval] at hx
  simp [go_sem, execOp, ho, hx, Act.eval, hm.at, hm.2.1]
theorem invoke_run1 {a : Act} {o : Oper} (k j : Nat) (name : String) (tys : Array TypeId) (ho : o.op = .call { callee := .invoke (.tmp k) name, args := #[.tmp j], argTypes := tys }) (T : TypeId) (r u : Value) (f : FuncId) (hx : a.eval (.tmp k) = .iface T r) (hu : a.eval (.tmp j) = u) (hm : Meth T r name f) (w : World) :
    (execOp a.eval o).run Tryz.prog w = .ok (.enter f #[r, u]) w := by
  simp only [Act.eval] at hx hu
  simp [go_sem, execOp, ho, hx, hu, Act.eval, hm.at, hm.2.1]
theorem Meth.nil {T : TypeId} {r : Value} {name : String} {f : FuncId} (h : Meth T r name f) (n : Nat) (W : World) (hn : 0 < n) : Sem.run Tryz.prog (nilAhead n T r name) W = .ok (some false) W := by
  obtain ⟨k, rfl⟩ : ∃ k, n = k + 1 := ⟨n - 1, by omega⟩
  exact h.2.2 k W
theorem nilCheck_run {a : Act} {o : Oper} (k : Nat) (name : String) (ho : o.op = .nilCheck (.tmp k)) (T : TypeId) (r : Value) (f : FuncId) (hx : a.eval (.tmp k) = .func (.method name) #[.iface T r] #[]) (hm : Meth T r name f) (w : World) :
    (execOp a.eval o).run Tryz.prog w = .ok (.value (.func (.method name) #[.iface T r] #[])) w := by
  simp only [Act.eval] at hx
  simp [go_sem, execOp, ho, hx, Act.eval, hm.nil]
/-- that a method's receiver is there, in a walk that keeps a class of worlds -/
theorem quiet_nil {ops : Array Oper} {C : World → Prop} {Q : Act → Prop} {a : Act} {o : Oper} {rest : List Oper} (hg : Region.wanted o (yielded ops a.tmps) = true) (k : Nat) (name : String)
    (ho : o.op = .nilCheck (.tmp k)) (T : TypeId) (r : Value) (f : FuncId) (hx : a.eval (.tmp k) = .func (.method name) #[.iface T r] #[]) (hm : Meth T r name f)
    (h : wpQuiet Tryz.prog ops C Q rest (a.put o.dst (.func (.method name) #[.iface T r] #[]))) : wpQuiet Tryz.prog ops C Q (o :: rest) a := by
  refine BigFrame.wpQuiet_want hg (fun K hK => ⟨_, fun w hw => ?_, hK _ h⟩)
  unfold Oper.quietAt
  rw [nilCheck_run k name ho T r f hx hm w]
  exact ⟨rfl, rfl⟩
/-- a call of a method by an interface, in a walk that keeps a class of worlds -/
theorem quiet_invoke0 {ops : Array Oper} {C : World → Prop} {Q : Act → Prop} {a : Act} {o : Oper} {rest : List Oper} (hg : Region.wanted o (yielded ops a.tmps) = true) (k : Nat) (name : String) (tys : Array TypeId)
    (ho : o.op = .call { callee := .invoke (.tmp k) name, args := #[], argTypes := tys }) (T : TypeId) (r : Value) (f : FuncId) (v : Value) (hx : a.eval (.tmp k) = .iface T r) (hm : Meth T r name f)
    (hc : ∀ w, C w → Calls Tryz.prog f #[r] w fun e w' => e = .returned v ∧ C w') (h : wpQuiet Tryz.prog ops C Q rest (a.put o.dst v)) : wpQuiet Tryz.prog ops C Q (o :: rest) a := by
  refine BigFrame.wpQuiet_want hg (fun K hK => ⟨v, fun w hw => ?_, hK _ h⟩)
  unfold Oper.quietAt
  rw [invoke_run0 k name tys ho T r f hx hm w]
  exact ⟨rfl, hc w hw⟩
theorem quiet_invoke1 {ops : Array Oper} {C : World → Prop} {Q : Act → Prop} {a : Act} {o : Oper} {rest : List Oper} (hg : Region.wanted o (yielded ops a.tmps) = true) (k j : Nat) (name : String) (tys : Array TypeId)
    (ho : o.op = .call { callee := .invoke (.tmp k) name, args := #[.tmp j], argTypes := tys }) (T : TypeId) (r u : Value) (f : FuncId) (v : Value) (hx : a.eval (.tmp k) = .iface T r) (hu : a.eval (.tmp j) = u) (hm : Meth T r name f)
    (hc : ∀ w, C w → Calls Tryz.prog f #[r, u] w fun e w' => e = .returned v ∧ C w') (h : wpQuiet Tryz.prog ops C Q rest (a.put o.dst v)) : wpQuiet Tryz.prog ops C Q (o :: rest) a := by
  refine BigFrame.wpQuiet_want hg (fun K hK => ⟨v, fun w hw => ?_, hK _ h⟩)
  unfold Oper.quietAt
  rw [invoke_run1 k j name tys ho T r u f hx hu hm w]
  exact ⟨rfl, hc w hw⟩

end Go.Proofs.YtlcglclojlffgaaGreat
namespace Go.Proofs.YtlcglclojlffgaaGreat
open Go.RowKit

set_option maxRecDepth 100000 in
set_option maxHeartbeats 2000000 in
theorem textWidth_any (m n : Nat) (T : TypeId) (r : Value) (fv fg fb fw : FuncId) (bk : Option Nat) (w : World) (hn : n ≤ 100000) (hM : ModeM w m T r fv fg fb fw bk) :
    Calls Tryz.prog 136 #[.iface T r, .int .i64 (n : Int)] w fun e w' => e = .returned (.int .i64 (txtW m n : Nat)) ∧ Below w.heap.size w w' := by
  obtain ⟨g1, g3⟩ := grpM_bd m
  have HT := Lib.hid (show txtW m n = n / grpM m * widM m (grpM m) + if n % grpM m > 0 then widM m (n % grpM m) else 0 from rfl)
  obtain ⟨G, hG⟩ : ∃ G, G = grpM m := ⟨_, rfl⟩
  have HG := Lib.hid hG
  rw [← hG] at g1 g3 HT
  obtain ⟨Q, hQ⟩ : ∃ Q, Q = n / G := ⟨_, rfl⟩
  obtain ⟨R, hR⟩ : ∃ R, R = n % G := ⟨_, rfl⟩
  have hQb : Q ≤ n := by rw [hQ]; exact Nat.div_le_self _ _
  have hRb : R < G := by rw [hR]; exact Nat.mod_lt _ (by omega)
  have hq : (n : Int) / (G : Int) = (Q : Int) := by rw [hQ]; push_cast; rfl
  have hr : (n : Int) % (G : Int) = (R : Int) := by rw [hR]; push_cast; rfl
  have hW := widM_bd m G g1 g3
  obtain ⟨W, hWe⟩ : ∃ W, W = widM m G := ⟨_, rfl⟩
  rw [← hQ, ← hR, ← hWe] at HT
  rw [← hWe] at hW
  have hP : Q * W ≤ 100000 * 24 := Nat.mul_le_mul (by omega) (by omega)
  obtain ⟨P, hPe⟩ : ∃ P, P = Q * W := ⟨_, rfl⟩
  rw [← hPe] at hP HT
  have hw : wrap64 ((Q : Int) * (W : Int)) = (P : Int) := by
    have : (Q : Int) * (W : Int) = (P : Int) := by rw [hPe]; push_cast; rfl
    rw [this]; unfold wrap64; omega
  have HM := Lib.hid hM
  have hmg := hM.mg.1
  have hmw := hM.mw.1
  have hcg := hM.mg.2.1
  have hcw := hM.mw.2.1
  have HWe := Lib.hid hWe
  clear hQ hR hWe hPe hG hM
  have HCg : Hid (∀ w', Below w.heap.size w w' → Calls Tryz.prog fg #[r] w' fun e w'' => e = .returned (.int .i64 (G : Int)) ∧ Below w'.heap.size w' w'') := Lib.hid (fun w' _ => by rw [HG.out]; exact HM.out.cg w')
  have HCw : Hid (∀ w', Below w.heap.size w w' → Calls Tryz.prog fw #[r, .int .i64 (G : Int)] w' fun e w'' => e = .returned (.int .i64 (W : Int)) ∧ Below w'.heap.size w' w'') := Lib.hid (fun w' hb => by rw [HWe.out]; exact HM.out.cw G w' g1 (by rw [HG.out]; exact Nat.le_refl _) (fun b e => hb.block b (HM.out.lt b e)))
  go_enter Tryz.func136, Tryz.ntmps136
  go_wp2_with fail
  refine wp_region_ext (by kernel_rfl) (by kernel_rfl) ?_
  repeat (first
    | (go_big_quiet_step (fail))
    | (refine quiet_nil rfl 14 "loop.example/g00879/impl.width" rfl T r fw rfl HM.out.mw ?_; simp only [Act.put, List.setIfInBounds_toArray, List.set_cons_zero, List.set_cons_succ])
    | (refine quiet_invoke0 rfl 8 "loop.example/g00879/impl.group" _ rfl T r fg (.int .i64 (G : Int)) rfl HM.out.mg (fun _ ⟨s, hs⟩ => by subst hs; exact calls_ext s (HCg.out _ s.below)) ?_; simp only [Act.put, List.setIfInBounds_toArray, List.set_cons_zero, List.set_cons_succ])
    | (refine quiet_invoke0 rfl 12 "loop.example/g00879/impl.group" _ rfl T r fg (.int .i64 (G : Int)) rfl HM.out.mg (fun _ ⟨s, hs⟩ => by subst hs; exact calls_ext s (HCg.out _ s.below)) ?_; simp only [Act.put, List.setIfInBounds_toArray, List.set_cons_zero, List.set_cons_succ])
    | (refine quiet_invoke1 rfl 16 13 "loop.example/g00879/impl.width" _ rfl T r _ fw (.int .i64 (W : Int)) rfl rfl HM.out.mw (fun _ ⟨s, hs⟩ => by subst hs; exact calls_ext s (HCw.out _ s.below)) ?_; simp only [Act.put, List.setIfInBounds_toArray, List.set_cons_zero, List.set_cons_succ]))
  refine wpQuiet_nil ?_
  rintro _ ⟨s, rfl⟩
  have HS := Lib.hid s.below
  go_wp2_with fail
  refine (HCg.out _ HS.out).mono ?_
  rintro e w2 ⟨rfl, hb2⟩
  have HB2 := Lib.hid (bt0 HS.out hb2 (Nat.le_refl _))
  clear hb2
  by_cases h0 : 0 < R
  · have hRi : (0 : Int) < (R : Int) := by omega
    have HCr := Lib.hid (HM.out.cw R w2 h0 (by rw [← HG.out]; omega) (fun b e => HB2.out.block b (HM.out.lt b e)))
    have hWr := widM_bd m R h0 (by omega)
    obtain ⟨V, hV⟩ : ∃ V, V = widM m R := ⟨_, rfl⟩
    rw [← hV] at HCr hWr HT
    rw [if_pos h0] at HT
    clear hV h0
    go_wp2_with fail
    refine HCr.out.mono ?_
    rintro e w3 ⟨rfl, hb3⟩
    have HB3 := Lib.hid (bt0 HB2.out hb3 (Nat.le_refl _))
    clear hb3
    go_wp2_with fail
    go_ret
    exact ⟨ret_int (by rw [HT.out]; push_cast; rfl), HB3.out⟩
  · obtain rfl : R = 0 := by omega
    rw [if_neg (by omega), Nat.add_zero] at HT
    go_wp2_with fail
    go_ret
    exact ⟨ret_int (by rw [HT.out]), HB2.out⟩
set_option maxRecDepth 100000 in
set_option maxHeartbeats 1000000 in
theorem segmentWidth_any (m n : Nat) (T : TypeId) (r : Value) (fv fg fb fw : FuncId) (bk : Option Nat) (w : World) (hn : n ≤ 100000) (hM : ModeM w m T r fv fg fb fw bk) :
    Calls Tryz.prog 128 #[.iface T r, .int .i64 (n : Int)] w fun e w' => e = .returned (.int .i64 (segW m n : Nat)) ∧ Below w.heap.size w w' := by
  have h1 := txtW_le m n
  have HS := Lib.hid (show segW m n = 11 + txtW m n from rfl)
  have HM := Lib.hid hM
  obtain ⟨V, hV⟩ : ∃ V, V = txtW m n := ⟨_, rfl⟩
  rw [← hV] at h1 HS
  have HV := Lib.hid hV
  clear hM hV
  go_enter Tryz.func128, Tryz.ntmps128
  go_wp2_with fail
  refine (textWidth_any m n T r fv fg fb fw bk _ hn HM.out).mono ?_
  rw [← HV.out]
  rintro e w2 ⟨rfl, hb2⟩
  have HB2 := Lib.hid hb2
  clear hb2
  go_wp2_with fail
  go_ret
  exact ⟨ret_int (by rw [HS.out]; push_cast; rfl), HB2.out⟩

end Go.Proofs.YtlcglclojlffgaaGreat
namespace Go.Proofs.YtlcglclojlffgaaGreat
open Go.RowKit

theorem grownBy_below {w w' : World} (hb : Below w.heap.size w w') (row : Option Nat) : w.grownBy w' row := ⟨hb.os, hb.tape, hb.output, hb.size, fun k hk _ => hb.block k hk⟩
theorem setCell_blk {w : World} {b : Nat} {C : Array Value} {t : TypeId} (h : w.heap[b]? = some (.cells C t (0, 0))) (i : Nat) (v : Value) : (w.setCell ⟨b, i, none⟩ v).heap[b]? = some (.cells (C.setIfInBounds i v) t (0, 0)) := by
  rw [setCell_eq_setRow w b _ C t (0, 0) _ h]
  exact setRow_heap w b _ _ t _ h
theorem wid_zero : Tryz.zeroCells156.size = 1280 := by kernel_rfl
/-- the widths of segments, filled up to mode m, length n -/
structure WidTo (m n : Nat) (C : Array Value) : Prop where
  size : C.size = 1280
  at' : ∀ i j, 1 ≤ i → i ≤ 4 → 1 ≤ j → j ≤ 255 → (i < m ∨ (i = m ∧ j < n)) → C[i * 256 + j]? = some (.int .i64 (segW i j : Nat))
theorem WidTo.step {m n : Nat} {C : Array Value} (h : WidTo m n C) (_hm : 1 ≤ m) (hm4 : m ≤ 4) (hn : n ≤ 255) : WidTo m (n + 1) (C.setIfInBounds (m * 256 + n) (.int .i64 (segW m n : Nat))) := by
  have hs := h.size
  refine ⟨by simp [hs], fun i j h1 h2 h3 h4 h5 => ?_⟩
  by_cases e : i = m ∧ j = n
  · obtain ⟨rfl, rfl⟩ := e
    rw [Array.getElem?_setIfInBounds_self_of_lt (by omega)]
  · rw [Array.getElem?_setIfInBounds_ne (by omega)]
    exact h.at' i j h1 h2 h3 h4 (by omega)
theorem WidTo.next {m : Nat} {C : Array Value} (h : WidTo m 256 C) : WidTo (m + 1) 1 C := ⟨h.size, fun i j h1 h2 h3 h4 h5 => h.at' i j h1 h2 h3 h4 (by omega)⟩
/-- the widths at a block -/
def WidAt (w : World) (b : Nat) : Prop := ∃ C t, w.heap[b]? = some (.cells C t (0, 0)) ∧ WidTo 5 1 C
theorem WidAt.below {w w' : World} {b : Nat} (h : WidAt w b) (hb : Below w.heap.size w w') : WidAt w' b := by
  obtain ⟨C, t, h1, h2⟩ := h
  exact ⟨C, t, blkK hb h1, h2⟩
theorem WidAt.cell {w : World} {b : Nat} (h : WidAt w b) {m n : Nat} (h1 : 1 ≤ m) (h2 : m ≤ 4) (h3 : 1 ≤ n) (h4 : n ≤ 255) : w.cell? ⟨b, m * 256 + n, none⟩ = some (.int .i64 (segW m n : Nat)) ∧ b < w.heap.size := by
  obtain ⟨C, t, k1, k2⟩ := h
  exact ⟨by rw [(heap_cellR k1).1]; exact k2.at' m n h1 h2 h3 h4 (by omega), blkLt k1⟩
set_option maxRecDepth 100000 in
set_option maxHeartbeats 2000000 in
theorem widths_any (w : World) :
    Calls Tryz.prog 106 #[] w fun e w' => e = .returned (.pointer (some ⟨w.heap.size, 0, none⟩)) ∧ WidAt w' w.heap.size ∧ Below w.heap.size w w' := by
  go_enter Tryz.func106, Tryz.ntmps106
  go_wp2_with fail
  go_loopw [2, 3, 4, 5] (fun i _ _ _ wr => ∃ (m : Nat) (C : Array Value), 1 ≤ m ∧ m ≤ 5 ∧ i = .int .i64 m ∧ wr.heap[w.heap.size]? = some (.cells C 156 (0, 0)) ∧ WidTo m 1 C ∧ Below w.heap.size w wr) (fun i _ _ _ _ => 5 - (intOf i).toNat)
  case atStart => exact ⟨1, _, by omega, by omega, rfl, push_at _ _, ⟨wid_zero, fun i j h1 h2 h3 h4 h5 => by omega⟩, ba1 _ _⟩
  case round =>
    obtain ⟨m, C, hm1, hm5, rfl, hC, hW, hb⟩ := hrel
    have HC := Lib.hid hC
    have HW := Lib.hid hW
    have HB := Lib.hid hb
    clear hC hW hb
    by_cases hlt : m ≤ 4
    · have hdec : decide ((m : Int) ≤ 4) = true := by simp; omega
      go_wp2_with fail
      refine (modeOf_any m hm1 hlt _).mono ?_
      rintro e w2 ⟨hb2, T, r, fv, fg, fb, fw, bk, rfl, hM, hbk⟩
      have HM := Lib.hid hM
      have HC2 := Lib.hid (blkK hb2 HC.out)
      have HB2 := Lib.hid (bt0 HB.out hb2 (Nat.le_refl _))
      have HBK := Lib.hid (fun b (e : bk = some b) => Nat.lt_of_lt_of_le (blkLt HC.out) (hbk b e))
      clear hb2 hM hbk
      go_wp2_with fail
      go_loopw [5] (fun j wr => ∃ (n : Nat) (C : Array Value), 1 ≤ n ∧ n ≤ 256 ∧ j = .int .i64 n ∧ wr.heap[w.heap.size]? = some (.cells C 156 (0, 0)) ∧ WidTo m n C ∧ Below w.heap.size w wr ∧ w2.grownBy wr (some w.heap.size)) (fun j _ => 256 - (intOf j).toNat)
      case atStart => exact ⟨1, _, by omega, by omega, rfl, HC2.out, HW.out, HB2.out, grownBy_refl _ _⟩
      case round =>
        obtain ⟨n, C', hn1, hn2, rfl, hC, hW, hb, hk⟩ := hrel
        have HC3 := Lib.hid hC
        have HW3 := Lib.hid hW
        have HB3 := Lib.hid hb
        have HK3 := Lib.hid hk
        have hlb := blkLt hC
        clear hC hW hb hk
        by_cases hln : n ≤ 255
        · have hdec : decide ((n : Int) ≤ 255) = true := by simp; omega
          have hsz : C'.size = 1280 := HW3.out.size
          obtain ⟨hcc, hff⟩ := heap_cellR HC3.out
          obtain ⟨v0, hv0⟩ : ∃ v, wr.cell? ⟨w.heap.size, m * 256 + n, none⟩ = some v := ⟨_, by rw [hcc]; exact Array.getElem?_eq_getElem (by omega)⟩
          have HM3 := Lib.hid (HM.out.kept HK3.out.size (fun b e => HK3.out.block b (HM.out.lt b e) (fun h => by cases h; exact absurd (HBK.out _ e) (Nat.lt_irrefl _))))
          go_wp2_with fail
          refine wp_region_ext_tail 9 (by kernel_rfl) (by kernel_rfl) ?_
          simp only [List.take_succ_cons, List.take_zero, List.drop_succ_cons, List.drop_zero]
          repeat (go_big_quiet_step ((go_at_call 128; go_must (exact calls_ext _ (segmentWidth_any m n T r fv fg fb fw bk _ (by omega) (HM3.out.below (Ext.below _)))))))
          refine wpQuiet_nil ?_
          rintro _ ⟨s, rfl⟩
          have hv1 := below_cell s.below hv0
          have hf1 := (s.below.frozen (p := ⟨w.heap.size, m * 256 + n, none⟩) hlb).trans (hff _)
          have HC4 := Lib.hid (blkK s.below HC3.out)
          clear hcc hff hv0
          go_wp2_with fail
          refine ⟨⟨n + 1, _, by omega, by omega, by go_num, ?_, HW3.out.step hm1 hlt hln, ?_, ?_⟩, by simp [intOf]; omega⟩
          · exact setCell_blk HC4.out _ _
          · exact (bt0 HB3.out s.below (Nat.le_refl _)).setCell (Nat.le_refl _) _
          · exact grownBy_trans (grownBy_trans HK3.out (grownBy_below s.below _)) (grownBy_set _ _ _ _)
        · have hdec : decide ((n : Int) ≤ 255) = false := by simp; omega
          obtain rfl : n = 256 := by omega
          go_wp2_with fail
          exact ⟨⟨m + 1, C', by omega, by omega, by go_num, HC3.out, HW3.out.next, HB3.out⟩, by simp [intOf]; omega⟩
    · have hdec : decide ((m : Int) ≤ 4) = false := by simp; omega
      obtain rfl : m = 5 := by omega
      go_wp2_with fail
      go_ret
      exact ⟨rfl, ⟨C, _, HC.out, HW.out⟩, HB.out⟩

end Go.Proofs.YtlcglclojlffgaaGreat
namespace Go.Proofs.YtlcglclojlffgaaGreat
open Go.RowKit

/-- how many bytes in a row each mode has had, in an array -/
def RchAt (w : World) (b : Nat) (f : Nat → Nat) : Prop := ∃ C t, w.heap[b]? = some (.cells C t (0, 0)) ∧ C.size = 5 ∧ ∀ i, 1 ≤ i → i ≤ 4 → C[i]? = some (.int .i64 (f i : Nat))
theorem RchAt.kept {w w' : World} {b : Nat} {f : Nat → Nat} (h : RchAt w b f) (hk : w'.heap[b]? = w.heap[b]?) : RchAt w' b f := by
  obtain ⟨C, t, h1, h2, h3⟩ := h
  exact ⟨C, t, hk.trans h1, h2, h3⟩
theorem RchAt.lt {w : World} {b : Nat} {f : Nat → Nat} (h : RchAt w b f) : b < w.heap.size := by
  obtain ⟨C, t, h1, h2, h3⟩ := h
  exact blkLt h1
theorem RchAt.below {w w' : World} {b : Nat} {f : Nat → Nat} (h : RchAt w b f) (hb : Below w.heap.size w w') : RchAt w' b f := h.kept (hb.block b h.lt)
theorem RchAt.cell {w : World} {b : Nat} {f : Nat → Nat} (h : RchAt w b f) {i : Nat} (h1 : 1 ≤ i) (h4 : i ≤ 4) : w.cell? ⟨b, i, none⟩ = some (.int .i64 (f i : Nat)) ∧ w.frozen? ⟨b, i, none⟩ = false := by
  obtain ⟨C, t, k1, k2, k3⟩ := h
  exact ⟨by rw [(heap_cellR k1).1]; exact k3 i h1 h4, (heap_cellR k1).2 i⟩
theorem RchAt.set {w : World} {b : Nat} {f g : Nat → Nat} (h : RchAt w b f) {i : Nat} (h1 : 1 ≤ i) (h4 : i ≤ 4) (z : Int) (hz : z = (g i : Nat)) (hg : ∀ j, j ≠ i → g j = f j) : RchAt (w.setCell ⟨b, i, none⟩ (.int .i64 z)) b g := by
  subst hz
  obtain ⟨C, t, k1, k2, k3⟩ := h
  refine ⟨_, t, setCell_blk k1 _ _, by simp [k2], fun j j1 j4 => ?_⟩
  by_cases e : j = i
  · subst e
    rw [Array.getElem?_setIfInBounds_self_of_lt (by omega)]
  · rw [Array.getElem?_setIfInBounds_ne (by omega), k3 j j1 j4, hg j e]
theorem RchAt.like {w : World} {b : Nat} {f g : Nat → Nat} (h : RchAt w b f) (hg : ∀ i, 1 ≤ i → i ≤ 4 → g i = f i) : RchAt w b g := by
  obtain ⟨C, t, k1, k2, k3⟩ := h
  exact ⟨C, t, k1, k2, fun i h1 h4 => by rw [k3 i h1 h4, hg i h1 h4]⟩
/-- a byte more -/
def tkN (f : Nat → Nat) (c : UInt8) (i : Nat) : Nat := if inM i c then min (f i + 1) 255 else 0
def tkTo (f : Nat → Nat) (c : UInt8) (m i : Nat) : Nat := if i < m then tkN f c i else f i
theorem tkTo_ne (f : Nat → Nat) (c : UInt8) {m j : Nat} (h : j ≠ m) : tkTo f c (m + 1) j = tkTo f c m j := by
  unfold tkTo
  by_cases h1 : j < m
  · rw [if_pos h1, if_pos (by omega)]
  · rw [if_neg h1, if_neg (by omega)]
theorem tkTo_at (f : Nat → Nat) (c : UInt8) (m : Nat) : tkTo f c (m + 1) m = tkN f c m := by unfold tkTo; rw [if_pos (by omega)]
theorem tkTo_old (f : Nat → Nat) (c : UInt8) (m : Nat) : tkTo f c m m = f m := by unfold tkTo; rw [if_neg (by omega)]
set_option maxRecDepth 100000 in
set_option maxHeartbeats 2000000 in
theorem take_any (b : Nat) (f : Nat → Nat) (hf : ∀ i, f i ≤ 255) (c : UInt8) (z : Nat) (hz : z = c.toNat) (w : World) (hR : RchAt w b f) :
    Calls Tryz.prog 107 #[.pointer (some ⟨b, 0, none⟩), .int .u8 (z : Int)] w fun e w' => e = .returned (.tuple #[]) ∧ RchAt w' b (tkN f c) ∧ w.grownBy w' (some b) := by
  have HR := Lib.hid hR
  have HF := Lib.hid hf
  have HZ := Lib.hid hz
  have hz255 : z ≤ 255 := by rw [hz]; have := c.toNat_lt; omega
  clear hR hf hz
  go_enter Tryz.func107, Tryz.ntmps107
  go_wp2_with fail
  go_loopw [4, 5, 6] (fun i _ _ wr => ∃ m : Nat, 1 ≤ m ∧ m ≤ 5 ∧ i = .int .i64 m ∧ RchAt wr b (tkTo f c m) ∧ w.grownBy wr (some b)) (fun i _ _ _ => 5 - (intOf i).toNat)
  case atStart => exact ⟨1, by omega, by omega, rfl, HR.out.like (fun i h1 h4 => by unfold tkTo; rw [if_neg (by omega)]), grownBy_refl _ _⟩
  case round =>
    obtain ⟨m, hm1, hm5, rfl, hr, hg⟩ := hrel
    have HRr := Lib.hid hr
    have HG := Lib.hid hg
    clear hr hg
    by_cases hlt : m ≤ 4
    · have hdec : decide ((m : Int) ≤ 4) = true := by simp; omega
      go_wp2_with fail
      refine (modeOf_any m hm1 hlt _).mono ?_
      rintro e w2 ⟨hb2, T, r, fv, fg, fb, fw, bk, rfl, hM, -⟩
      have HM := Lib.hid hM
      have HR2 := Lib.hid (HRr.out.below hb2)
      have HG2 := Lib.hid (grownBy_trans HG.out (grownBy_below hb2 (some b)))
      have hmv := hM.mv.1
      have hcv := hM.mv.2.1
      clear hb2 hM
      go_wp2_with fail
      refine (HM.out.cv _ _).mono ?_
      rintro e w3 ⟨rfl, hb3⟩
      have HV := Lib.hid (show (decide (0 ≤ valC m (z : Int))) = inM m c by rw [HZ.out]; rfl)
      have hv1 := valC_ge m (z : Int) (by omega)
      have hv2 := valC_le m (z : Int) (by omega)
      have HR3 := Lib.hid (HR2.out.below hb3)
      have HG3 := Lib.hid (grownBy_trans HG2.out (grownBy_below hb3 (some b)))
      obtain ⟨V, hV⟩ : ∃ V, V = valC m (z : Int) := ⟨_, rfl⟩
      rw [← hV] at HV hv1 hv2 ⊢
      obtain ⟨hc1, hf1⟩ := HR3.out.cell hm1 hlt
      rw [tkTo_old] at hc1
      have hlb := HR3.out.lt
      have hfm := HF.out m
      clear hb3 hV hmv hcv
      by_cases h0 : V < 0
      · have HN := Lib.hid (show tkN f c m = 0 by unfold tkN; rw [← HV.out, if_neg (by simp; omega)])
        go_wp2_with fail
        exact ⟨⟨m + 1, by omega, by omega, by go_num, HR3.out.set hm1 hlt _ (by rw [tkTo_at, HN.out]; rfl) (fun j hj => tkTo_ne f c hj), grownBy_trans HG3.out (grownBy_set _ _ _ _)⟩, by simp [intOf]; omega⟩
      · have HN := Lib.hid (show tkN f c m = min (f m + 1) 255 by unfold tkN; rw [← HV.out, if_pos (by simp; omega)])
        go_wp2_with fail
        refine wp_region_ext_tail 11 (by kernel_rfl) (by kernel_rfl) ?_
        simp only [List.take_succ_cons, List.take_zero, List.drop_succ_cons, List.drop_zero]
        repeat (go_big_quiet_step (fail))
        refine wpQuiet_nil ?_
        rintro _ ⟨s, rfl⟩
        have hv1 := below_cell s.below hc1
        have hf1' := (s.below.frozen (p := ⟨b, m, none⟩) hlb).trans hf1
        have HR4 := Lib.hid (HR3.out.below s.below)
        have HG4 := Lib.hid (grownBy_trans HG3.out (grownBy_below s.below (some b)))
        clear hc1 hf1
        go_wp2_with fail
        refine ⟨⟨m + 1, by omega, by omega, by go_num, HR4.out.set hm1 hlt _ ?_ (fun j hj => tkTo_ne f c hj), grownBy_trans HG4.out (grownBy_set _ _ _ _)⟩, by simp [intOf]; omega⟩
        rw [tkTo_at, HN.out]
        split <;> omega
    · have hdec : decide ((m : Int) ≤ 4) = false := by simp; omega
      obtain rfl : m = 5 := by omega
      go_wp2_with fail
      refine bodyPost_end (results_none rfl _ _ _) rfl ?_
      exact ⟨rfl, HRr.out.like (fun i h1 h4 => by unfold tkTo; rw [if_pos (by omega)]), HG.out⟩

end Go.Proofs.YtlcglclojlffgaaGreat
namespace Go.Proofs.YtlcglclojlffgaaGreat
open Go.RowKit

/-- a choice as a value -/
def chV (x : Ch) : Value := .agg #[.int .i64 x.l, .int .i64 x.c, .int .i64 x.t, .int .i64 x.m]
theorem bq_ne {a b : Int} (h : a ≠ b) : (a != b) = true := by rw [bne_iff_ne]; exact h
theorem bq_eq (a : Int) : (a != a) = false := by simp
set_option maxRecDepth 100000 in
set_option maxHeartbeats 1000000 in
theorem better_any (x y : Ch) (w : World) : Calls Tryz.prog 108 #[chV x, chV y] w fun e w' => e = .returned (.bool (chB x y)) ∧ Below w.heap.size w w' := by
  obtain ⟨a1, a2, a3, a4⟩ := x
  obtain ⟨b1, b2, b3, b4⟩ := y
  unfold chV
  have HD := Lib.hid (show chB ⟨a1, a2, a3, a4⟩ ⟨b1, b2, b3, b4⟩ = if (a1 != b1) then decide (a1 < b1) else if (a2 != b2) then decide (a2 < b2) else if (a3 != b3) then decide (b3 < a3) else decide (a4 < b4) from rfl)
  obtain ⟨R, hR⟩ : ∃ R, R = chB ⟨a1, a2, a3, a4⟩ ⟨b1, b2, b3, b4⟩ := ⟨_, rfl⟩
  rw [← hR] at HD ⊢
  clear hR
  dsimp only
  by_cases e1 : a1 = b1
  · subst e1
    by_cases e2 : a2 = b2
    · subst e2
      by_cases e3 : a3 = b3
      · subst e3
        rw [bq_eq, bq_eq, bq_eq] at HD
        go_enter Tryz.func108, Tryz.ntmps108
        go_wp2_with fail
        go_ret
        exact ⟨ret_bool HD.out.symm, ba2 _ _ _⟩
      · have h3 := bq_ne e3
        rw [bq_eq, bq_eq, h3] at HD
        clear e3
        go_enter Tryz.func108, Tryz.ntmps108
        go_wp2_with fail
        go_ret
        exact ⟨ret_bool HD.out.symm, ba2 _ _ _⟩
    · have h2 := bq_ne e2
      rw [bq_eq, h2] at HD
      clear e2
      go_enter Tryz.func108, Tryz.ntmps108
      go_wp2_with fail
      go_ret
      exact ⟨ret_bool HD.out.symm, ba2 _ _ _⟩
  · have h1 := bq_ne e1
    rw [h1] at HD
    clear e1
    go_enter Tryz.func108, Tryz.ntmps108
    go_wp2_with fail
    go_ret
    exact ⟨ret_bool HD.out.symm, ba2 _ _ _⟩

end Go.Proofs.YtlcglclojlffgaaGreat
