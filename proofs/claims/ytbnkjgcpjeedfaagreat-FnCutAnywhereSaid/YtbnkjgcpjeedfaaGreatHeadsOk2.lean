/-
  HeadsOk2: No condition.
-/
import Derived.Test.YtbnkjgcpjeedfaaGreatHeadsOks
import Derived.Test.YtbnkjgcpjeedfaaGreatBunch
namespace Go.Proofs.YtbnkjgcpjeedfaaGreat
set_option maxHeartbeats 4000000
set_option maxRecDepth 100000
set_option linter.unusedSimpArgs false
open Go.RowKit
set_option linter.unusedVariables false
theorem Qnm(n:Int)(A:Option Addr)(c:Nat)(l:List Qak)(w:World)(hr:SlF AnyB Qak.cells 5 w A l c) :
 Calls Tryz.prog 116 #[.int .i64 n,.slice A l.length c] w fun e w'=>e=.returned (.bool (Qdj n l))/\Ext w w':=by
 have HR:=hU hr
 have hlm:=hr.len
 unfold maxLen at hlm
 obtain⟨fin,hfin⟩:∃ fin,fin=Qdj n l:=⟨_,rfl⟩
 rw[<-hfin]
 cases b1:inR n 1 32
 · have E:=hU (show fin=false by rw[hfin,Qdj,b1];rfl)
   clear hfin hr
   go_enter Tryz.func116,Tryz.ntmps116
   go_wp2_with fail
   refine(Qbn n _).mono ?_
   rintro e w1 ⟨rfl,rfl⟩
   go_wp2_with fail
   go_ret
   exact⟨Qam E.out.symm,Below.refl w.heap.size w⟩
 by_cases h5:l.length<=400
 case neg=>
  have E:=hU (show fin=false by rw[hfin,Qdj,decide_eq_false h5];simp)
  have h6:(400:Int)<(l.length:Int):=by omega
  clear hfin hr
  go_enter Tryz.func116,Tryz.ntmps116
  go_wp2_with fail
  refine(Qbn n _).mono ?_
  rintro e w1 ⟨rfl,rfl⟩
  go_wp2_with fail
  go_ret
  exact⟨Qam E.out.symm,Below.refl w.heap.size w⟩
 have F:=hU (show fin=Qed (Qeh n l) l.length by rw[hfin,Qdj,decide_eq_true h5,b1];rfl)
 clear hfin hr
 go_enter Tryz.func116,Tryz.ntmps116
 go_wp2_with fail
 refine(Qbn n _).mono ?_
 rintro e w1 ⟨rfl,rfl⟩
 go_wp2_with fail
 go_loopw [17] (fun i wr=>∃ k:Nat,k<=l.length/\i=.int .i64 k/\Qed (Qeh n l) k=true/\Ext w wr) (fun i _=>l.length-(intOf i).toNat)
 case atStart=>exact⟨0,Nat.zero_le _,rfl,rfl,Below.refl w.heap.size w⟩
 case round=>
  obtain⟨k,hk,rfl,hi,he⟩:=hrel
  have Hi:=hU hi
  clear hi b1
  by_cases hlt:k<l.length
  case neg=>
   have E:=hU (show fin=true by rw[F.out,show l.length=k by omega];exact Hi.out)
   go_wp2_with fail
   go_ret
   exact⟨Qam E.out.symm,he⟩
  obtain⟨b,off,rfl,hb,hc⟩:=Qbb.at_ (HR.out.ext he).reads (k:=k) hlt
  obtain⟨d,hd⟩:∃ d,d=l[k]:=⟨_,rfl⟩
  have hdl:l[k]?=some d:=by rw[hd];exact List.getElem?_eq_getElem hlt
  obtain⟨c0,c1,c2,c3,c4⟩:=Qbz (HR.out.ext he) hdl
  have Hdl:=hU hdl
  clear hc hd hdl
  go_upto_region 6 with fail
  have h2:=Ext.new (Below.refl wr.heap.size wr) (.cells #[.int .i64 d.number,.int .i64 d.size,.string d.root,.int .i64 d.taken,.string d.takenRoot] 33)
  have ke:=Blk.new wr 33 #[.int .i64 d.number,.int .i64 d.size,.string d.root,.int .i64 d.taken,.string d.takenRoot]
  replace he:=he.next h2
  obtain⟨q,hq⟩:∃ q,q=wr.heap.size:=⟨_,rfl⟩
  rw[<-hq] at ke hb
  rw[<-hq]
  clear hq h2 c0 c1 c2 c3 c4
  generalize wr.alloc (.cells #[.int .i64 d.number,.int .i64 d.size,.string d.root,.int .i64 d.taken,.string d.takenRoot] 33)=w1 at *
  refine wp_region_held_drew (S:=fun w'=>Blk w' q 33 #[.int .i64 d.number,.int .i64 d.size,.string d.root,.int .i64 d.taken,.string d.takenRoot]/\Ext w w') (by kernel_rfl) ⟨ke.drew,he.drew⟩ (fun hH=>?_)
  clear ke he
  refine Qbg (i:=0) (oi:=_) (v:=.pointer (some ⟨q,0,none⟩)) (some 22) rfl rfl (by kernel_rfl) (by kernel_rfl) (by kernel_rfl) (fun _ a b _ e h=>by cases a;cases b;cases e;exact h) (Or.inl ⟨by rfl,?yz501⟩) hH ?rz501
  case yz501=>intro w' hS';obtain⟨s0,s1⟩:=hS';obtain⟨r1,f1⟩:=s0.rules;go_simp;try with_reducible rfl
  (try simp only[Qa7,Act.put,List.setIfInBounds_toArray,List.set_cons_zero,List.set_cons_succ])
  refine Qbg (i:=1) (oi:=_) (v:=.int .i64 d.number) (some 23) rfl rfl (by kernel_rfl) (by kernel_rfl) (by kernel_rfl) (fun _ a b _ e h=>by cases a;cases b;cases e;exact h) (Or.inl ⟨by rfl,?yz502⟩) hH ?rz502
  case yz502=>intro w' hS';obtain⟨s0,s1⟩:=hS';obtain⟨r1,f1⟩:=s0.rules;go_simp;try with_reducible rfl
  (try simp only[Qa7,Act.put,List.setIfInBounds_toArray,List.set_cons_zero,List.set_cons_succ])
  refine Qbg (i:=2) (oi:=_) (v:=.int .i64 (k:Int)) (some 24) rfl rfl (by kernel_rfl) (by kernel_rfl) (by kernel_rfl) (fun _ a b _ e h=>by cases a;cases b;cases e;exact h) (Or.inl ⟨by rfl,?yz503⟩) hH ?rz503
  case yz503=>intro w' hS';obtain⟨s0,s1⟩:=hS';obtain⟨r1,f1⟩:=s0.rules;go_simp;try with_reducible rfl
  (try simp only[Qa7,Act.put,List.setIfInBounds_toArray,List.set_cons_zero,List.set_cons_succ])
  cases p2:(d.number==(k:Int))
  · have E:=hU (show fin=false by rw[F.out];exact Qd2 (k:=k) (Qpp Hdl.out (by rw[p2,Bool.and_false])) _ hlt)
    have n2:(d.number != (k:Int))=true:=by rw[bne,p2];rfl
    (try simp only[Qa7,Act.put,List.setIfInBounds_toArray,List.set_cons_zero,List.set_cons_succ])
    refine Qbg (i:=3) (oi:=_) (v:=.bool true) (some 25) rfl rfl (by kernel_rfl) (by kernel_rfl) (by kernel_rfl) (fun _ a b _ e h=>by cases a;cases b;cases e;exact h) (Or.inl ⟨by rfl,?yz504⟩) hH ?rz504
    case yz504=>intro w' hS';obtain⟨s0,s1⟩:=hS';obtain⟨r1,f1⟩:=s0.rules;go_simp;try with_reducible rfl
    (try simp only[Qa7,Act.put,List.setIfInBounds_toArray,List.set_cons_zero,List.set_cons_succ])
    refine Qbg (i:=4) (oi:=_) (v:=.bool true) (some 26) rfl rfl (by kernel_rfl) (by kernel_rfl) (by kernel_rfl) (fun _ a b _ e h=>by cases a;cases b;cases e;exact h) (Or.inl ⟨by rfl,?yz505⟩) hH ?rz505
    case yz505=>intro w' hS';obtain⟨s0,s1⟩:=hS';obtain⟨r1,f1⟩:=s0.rules;go_simp;try with_reducible rfl
    (try simp only[Qa7,Act.put,List.setIfInBounds_toArray,List.set_cons_zero,List.set_cons_succ])
    refine Qbg (i:=5) (oi:=_) (v:=undef) (some 27) rfl rfl (by kernel_rfl) (by kernel_rfl) (by kernel_rfl) (fun _ a b _ e h=>by cases a;cases b;cases e;exact h) (Or.inr ⟨by go_simp;try (intro h;cases h),rfl⟩) hH ?rz506
    (try simp only[Qa7,Act.put,List.setIfInBounds_toArray,List.set_cons_zero,List.set_cons_succ])
    refine Qbg (i:=6) (oi:=_) (v:=undef) (some 28) rfl rfl (by kernel_rfl) (by kernel_rfl) (by kernel_rfl) (fun _ a b _ e h=>by cases a;cases b;cases e;exact h) (Or.inr ⟨by go_simp;try (intro h;cases h),rfl⟩) hH ?rz507
    (try simp only[Qa7,Act.put,List.setIfInBounds_toArray,List.set_cons_zero,List.set_cons_succ])
    refine Qbg (i:=7) (oi:=_) (v:=undef) (some 29) rfl rfl (by kernel_rfl) (by kernel_rfl) (by kernel_rfl) (fun _ a b _ e h=>by cases a;cases b;cases e;exact h) (Or.inr ⟨by go_simp;try (intro h;cases h),rfl⟩) hH ?rz508
    (try simp only[Qa7,Act.put,List.setIfInBounds_toArray,List.set_cons_zero,List.set_cons_succ])
    refine Qbg (i:=8) (oi:=_) (v:=undef) (some 30) rfl rfl (by kernel_rfl) (by kernel_rfl) (by kernel_rfl) (fun _ a b _ e h=>by cases a;cases b;cases e;exact h) (Or.inr ⟨by go_simp;try (intro h;cases h),rfl⟩) hH ?rz509
    (try simp only[Qa7,Act.put,List.setIfInBounds_toArray,List.set_cons_zero,List.set_cons_succ])
    refine Qbg (i:=9) (oi:=_) (v:=.bool true) (some 31) rfl rfl (by kernel_rfl) (by kernel_rfl) (by kernel_rfl) (fun _ a b _ e h=>by cases a;cases b;cases e;exact h) (Or.inl ⟨by rfl,?yz510⟩) hH ?rz510
    case yz510=>intro w' hS';obtain⟨s0,s1⟩:=hS';obtain⟨r1,f1⟩:=s0.rules;go_simp;try with_reducible rfl
    (try simp only[Qa7,Act.put,List.setIfInBounds_toArray,List.set_cons_zero,List.set_cons_succ])
    refine Qbg (i:=10) (oi:=_) (v:=.bool true) (some 32) rfl rfl (by kernel_rfl) (by kernel_rfl) (by kernel_rfl) (fun _ a b _ e h=>by cases a;cases b;cases e;exact h) (Or.inl ⟨by rfl,?yz511⟩) hH ?rz511
    case yz511=>intro w' hS';obtain⟨s0,s1⟩:=hS';obtain⟨r1,f1⟩:=s0.rules;go_simp;try with_reducible rfl
    (try simp only[Qa7,Act.put,List.setIfInBounds_toArray,List.set_cons_zero,List.set_cons_succ])
    refine Qbg (i:=11) (oi:=_) (v:=undef) (some 33) rfl rfl (by kernel_rfl) (by kernel_rfl) (by kernel_rfl) (fun _ a b _ e h=>by cases a;cases b;cases e;exact h) (Or.inr ⟨by go_simp;try (intro h;cases h),rfl⟩) hH ?rz512
    (try simp only[Qa7,Act.put,List.setIfInBounds_toArray,List.set_cons_zero,List.set_cons_succ])
    refine Qbg (i:=12) (oi:=_) (v:=undef) (some 34) rfl rfl (by kernel_rfl) (by kernel_rfl) (by kernel_rfl) (fun _ a b _ e h=>by cases a;cases b;cases e;exact h) (Or.inr ⟨by go_simp;try (intro h;cases h),rfl⟩) hH ?rz513
    (try simp only[Qa7,Act.put,List.setIfInBounds_toArray,List.set_cons_zero,List.set_cons_succ])
    refine Qbg (i:=13) (oi:=_) (v:=undef) (some 35) rfl rfl (by kernel_rfl) (by kernel_rfl) (by kernel_rfl) (fun _ a b _ e h=>by cases a;cases b;cases e;exact h) (Or.inr ⟨by go_simp;try (intro h;cases h),rfl⟩) hH ?rz514
    (try simp only[Qa7,Act.put,List.setIfInBounds_toArray,List.set_cons_zero,List.set_cons_succ])
    refine Qbg (i:=14) (oi:=_) (v:=undef) (some 36) rfl rfl (by kernel_rfl) (by kernel_rfl) (by kernel_rfl) (fun _ a b _ e h=>by cases a;cases b;cases e;exact h) (Or.inr ⟨by go_simp;try (intro h;cases h),rfl⟩) hH ?rz515
    (try simp only[Qa7,Act.put,List.setIfInBounds_toArray,List.set_cons_zero,List.set_cons_succ])
    refine Qbg (i:=15) (oi:=_) (v:=undef) (some 37) rfl rfl (by kernel_rfl) (by kernel_rfl) (by kernel_rfl) (fun _ a b _ e h=>by cases a;cases b;cases e;exact h) (Or.inr ⟨by go_simp;try (intro h;cases h),rfl⟩) hH ?rz516
    (try simp only[Qa7,Act.put,List.setIfInBounds_toArray,List.set_cons_zero,List.set_cons_succ])
    refine Qbg (i:=16) (oi:=_) (v:=undef) (some 38) rfl rfl (by kernel_rfl) (by kernel_rfl) (by kernel_rfl) (fun _ a b _ e h=>by cases a;cases b;cases e;exact h) (Or.inr ⟨by go_simp;try (intro h;cases h),rfl⟩) hH ?rz517
    (try simp only[Qa7,Act.put,List.setIfInBounds_toArray,List.set_cons_zero,List.set_cons_succ])
    refine Qbg (i:=17) (oi:=_) (v:=undef) (some 39) rfl rfl (by kernel_rfl) (by kernel_rfl) (by kernel_rfl) (fun _ a b _ e h=>by cases a;cases b;cases e;exact h) (Or.inr ⟨by go_simp;try (intro h;cases h),rfl⟩) hH ?rz518
    (try simp only[Qa7,Act.put,List.setIfInBounds_toArray,List.set_cons_zero,List.set_cons_succ])
    refine Qbg (i:=18) (oi:=_) (v:=undef) (some 40) rfl rfl (by kernel_rfl) (by kernel_rfl) (by kernel_rfl) (fun _ a b _ e h=>by cases a;cases b;cases e;exact h) (Or.inr ⟨by go_simp;try (intro h;cases h),rfl⟩) hH ?rz519
    (try simp only[Qa7,Act.put,List.setIfInBounds_toArray,List.set_cons_zero,List.set_cons_succ])
    refine Qbg (i:=19) (oi:=_) (v:=undef) (some 41) rfl rfl (by kernel_rfl) (by kernel_rfl) (by kernel_rfl) (fun _ a b _ e h=>by cases a;cases b;cases e;exact h) (Or.inr ⟨by go_simp;try (intro h;cases h),rfl⟩) hH ?rz520
    (try simp only[Qa7,Act.put,List.setIfInBounds_toArray,List.set_cons_zero,List.set_cons_succ])
    refine Qbg (i:=20) (oi:=_) (v:=undef) (some 42) rfl rfl (by kernel_rfl) (by kernel_rfl) (by kernel_rfl) (fun _ a b _ e h=>by cases a;cases b;cases e;exact h) (Or.inr ⟨by go_simp;try (intro h;cases h),rfl⟩) hH ?rz521
    (try simp only[Qa7,Act.put,List.setIfInBounds_toArray,List.set_cons_zero,List.set_cons_succ])
    refine Qbg (i:=21) (oi:=_) (v:=undef) (some 43) rfl rfl (by kernel_rfl) (by kernel_rfl) (by kernel_rfl) (fun _ a b _ e h=>by cases a;cases b;cases e;exact h) (Or.inr ⟨by go_simp;try (intro h;cases h),rfl⟩) hH ?rz522
    (try simp only[Qa7,Act.put,List.setIfInBounds_toArray,List.set_cons_zero,List.set_cons_succ])
    refine Qbg (i:=22) (oi:=_) (v:=undef) (some 44) rfl rfl (by kernel_rfl) (by kernel_rfl) (by kernel_rfl) (fun _ a b _ e h=>by cases a;cases b;cases e;exact h) (Or.inr ⟨by go_simp;try (intro h;cases h),rfl⟩) hH ?rz523
    (try simp only[Qa7,Act.put,List.setIfInBounds_toArray,List.set_cons_zero,List.set_cons_succ])
    refine Qbg (i:=23) (oi:=_) (v:=undef) (some 45) rfl rfl (by kernel_rfl) (by kernel_rfl) (by kernel_rfl) (fun _ a b _ e h=>by cases a;cases b;cases e;exact h) (Or.inr ⟨by go_simp;try (intro h;cases h),rfl⟩) hH ?rz524
    (try simp only[Qa7,Act.put,List.setIfInBounds_toArray,List.set_cons_zero,List.set_cons_succ])
    refine Qbg (i:=24) (oi:=_) (v:=.bool true) (some 46) rfl rfl (by kernel_rfl) (by kernel_rfl) (by kernel_rfl) (fun _ a b _ e h=>by cases a;cases b;cases e;exact h) (Or.inl ⟨by rfl,?yz525⟩) hH ?rz525
    case yz525=>intro w' hS';obtain⟨s0,s1⟩:=hS';obtain⟨r1,f1⟩:=s0.rules;go_simp;try with_reducible rfl
    (try simp only[Qa7,Act.put,List.setIfInBounds_toArray,List.set_cons_zero,List.set_cons_succ])
    have he2:=hH.2
    clear hH
    refine wpAnyH_done (by kernel_rfl) ?_ _
    go_wp2_with fail
    go_ret
    exact⟨Qam E.out.symm,he2⟩
  · have n2:(d.number != (k:Int))=false:=by rw[bne,p2];rfl
    (try simp only[Qa7,Act.put,List.setIfInBounds_toArray,List.set_cons_zero,List.set_cons_succ])
    refine Qbg (i:=3) (oi:=_) (v:=.bool false) (some 25) rfl rfl (by kernel_rfl) (by kernel_rfl) (by kernel_rfl) (fun _ a b _ e h=>by cases a;cases b;cases e;exact h) (Or.inl ⟨by rfl,?yz526⟩) hH ?rz526
    case yz526=>intro w' hS';obtain⟨s0,s1⟩:=hS';obtain⟨r1,f1⟩:=s0.rules;go_simp;try with_reducible rfl
    (try simp only[Qa7,Act.put,List.setIfInBounds_toArray,List.set_cons_zero,List.set_cons_succ])
    refine Qbg (i:=4) (oi:=_) (v:=.bool false) (some 26) rfl rfl (by kernel_rfl) (by kernel_rfl) (by kernel_rfl) (fun _ a b _ e h=>by cases a;cases b;cases e;exact h) (Or.inl ⟨by rfl,?yz527⟩) hH ?rz527
    case yz527=>intro w' hS';obtain⟨s0,s1⟩:=hS';obtain⟨r1,f1⟩:=s0.rules;go_simp;try with_reducible rfl
    (try simp only[Qa7,Act.put,List.setIfInBounds_toArray,List.set_cons_zero,List.set_cons_succ])
    refine Qbg (i:=5) (oi:=_) (v:=.int .i64 n) (some 27) rfl rfl (by kernel_rfl) (by kernel_rfl) (by kernel_rfl) (fun _ a b _ e h=>by cases a;cases b;cases e;exact h) (Or.inl ⟨by rfl,?yz528⟩) hH ?rz528
    case yz528=>intro w' hS';obtain⟨s0,s1⟩:=hS';obtain⟨r1,f1⟩:=s0.rules;go_simp;try with_reducible rfl
    (try simp only[Qa7,Act.put,List.setIfInBounds_toArray,List.set_cons_zero,List.set_cons_succ])
    refine Qbg (i:=6) (oi:=_) (v:=.agg #[.int .i64 d.number,.int .i64 d.size,.string d.root,.int .i64 d.taken,.string d.takenRoot]) (some 28) rfl rfl (by kernel_rfl) (by kernel_rfl) (by kernel_rfl) (fun _ a b _ e h=>by cases a;cases b;cases e;exact h) (Or.inl ⟨by rfl,?yz529⟩) hH ?rz529
    case yz529=>intro w' hS';obtain⟨s0,s1⟩:=hS';obtain⟨r1,f1⟩:=s0.rules;go_simp;try with_reducible rfl
    (try simp only[Qa7,Act.put,List.setIfInBounds_toArray,List.set_cons_zero,List.set_cons_succ])
    refine Qu5 7 (oi:=_) (some 29) (by kernel_rfl) rfl (by rfl) rfl (fun K' hK=>?_)
    refine⟨?_⟩
    rw[if_pos (by rfl)]
    go_simp
    refine(Qbf n d _).mono ?_
    rintro e w2 ⟨rfl,h1⟩
    refine hK.out _ _ ⟨_,rfl⟩ (⟨hH.1.ext h1,hH.2.next h1⟩) (fun hH2=>?_)
    clear hK K' hH h1
    have hH:=hH2
    clear hH2
    cases p1:Qbc n d
    · have E:=hU (show fin=false by rw[F.out];exact Qd2 (k:=k) (Qpp Hdl.out (by rw[p1];rfl)) _ hlt)
      (try simp only[Qa7,Act.put,List.setIfInBounds_toArray,List.set_cons_zero,List.set_cons_succ])
      refine Qbg (i:=8) (oi:=_) (v:=.bool true) (some 30) rfl rfl (by kernel_rfl) (by kernel_rfl) (by kernel_rfl) (fun _ a b _ e h=>by cases a;cases b;cases e;exact h) (Or.inl ⟨by rfl,?yz530⟩) hH ?rz530
      case yz530=>intro w' hS';obtain⟨s0,s1⟩:=hS';obtain⟨r1,f1⟩:=s0.rules;go_simp;try with_reducible rfl
      (try simp only[Qa7,Act.put,List.setIfInBounds_toArray,List.set_cons_zero,List.set_cons_succ])
      refine Qbg (i:=9) (oi:=_) (v:=.bool true) (some 31) rfl rfl (by kernel_rfl) (by kernel_rfl) (by kernel_rfl) (fun _ a b _ e h=>by cases a;cases b;cases e;exact h) (Or.inl ⟨by rfl,?yz531⟩) hH ?rz531
      case yz531=>intro w' hS';obtain⟨s0,s1⟩:=hS';obtain⟨r1,f1⟩:=s0.rules;go_simp;try with_reducible rfl
      (try simp only[Qa7,Act.put,List.setIfInBounds_toArray,List.set_cons_zero,List.set_cons_succ])
      refine Qbg (i:=10) (oi:=_) (v:=.bool true) (some 32) rfl rfl (by kernel_rfl) (by kernel_rfl) (by kernel_rfl) (fun _ a b _ e h=>by cases a;cases b;cases e;exact h) (Or.inl ⟨by rfl,?yz532⟩) hH ?rz532
      case yz532=>intro w' hS';obtain⟨s0,s1⟩:=hS';obtain⟨r1,f1⟩:=s0.rules;go_simp;try with_reducible rfl
      (try simp only[Qa7,Act.put,List.setIfInBounds_toArray,List.set_cons_zero,List.set_cons_succ])
      refine Qbg (i:=11) (oi:=_) (v:=undef) (some 33) rfl rfl (by kernel_rfl) (by kernel_rfl) (by kernel_rfl) (fun _ a b _ e h=>by cases a;cases b;cases e;exact h) (Or.inr ⟨by go_simp;try (intro h;cases h),rfl⟩) hH ?rz533
      (try simp only[Qa7,Act.put,List.setIfInBounds_toArray,List.set_cons_zero,List.set_cons_succ])
      refine Qbg (i:=12) (oi:=_) (v:=undef) (some 34) rfl rfl (by kernel_rfl) (by kernel_rfl) (by kernel_rfl) (fun _ a b _ e h=>by cases a;cases b;cases e;exact h) (Or.inr ⟨by go_simp;try (intro h;cases h),rfl⟩) hH ?rz534
      (try simp only[Qa7,Act.put,List.setIfInBounds_toArray,List.set_cons_zero,List.set_cons_succ])
      refine Qbg (i:=13) (oi:=_) (v:=undef) (some 35) rfl rfl (by kernel_rfl) (by kernel_rfl) (by kernel_rfl) (fun _ a b _ e h=>by cases a;cases b;cases e;exact h) (Or.inr ⟨by go_simp;try (intro h;cases h),rfl⟩) hH ?rz535
      (try simp only[Qa7,Act.put,List.setIfInBounds_toArray,List.set_cons_zero,List.set_cons_succ])
      refine Qbg (i:=14) (oi:=_) (v:=undef) (some 36) rfl rfl (by kernel_rfl) (by kernel_rfl) (by kernel_rfl) (fun _ a b _ e h=>by cases a;cases b;cases e;exact h) (Or.inr ⟨by go_simp;try (intro h;cases h),rfl⟩) hH ?rz536
      (try simp only[Qa7,Act.put,List.setIfInBounds_toArray,List.set_cons_zero,List.set_cons_succ])
      refine Qbg (i:=15) (oi:=_) (v:=undef) (some 37) rfl rfl (by kernel_rfl) (by kernel_rfl) (by kernel_rfl) (fun _ a b _ e h=>by cases a;cases b;cases e;exact h) (Or.inr ⟨by go_simp;try (intro h;cases h),rfl⟩) hH ?rz537
      (try simp only[Qa7,Act.put,List.setIfInBounds_toArray,List.set_cons_zero,List.set_cons_succ])
      refine Qbg (i:=16) (oi:=_) (v:=undef) (some 38) rfl rfl (by kernel_rfl) (by kernel_rfl) (by kernel_rfl) (fun _ a b _ e h=>by cases a;cases b;cases e;exact h) (Or.inr ⟨by go_simp;try (intro h;cases h),rfl⟩) hH ?rz538
      (try simp only[Qa7,Act.put,List.setIfInBounds_toArray,List.set_cons_zero,List.set_cons_succ])
      refine Qbg (i:=17) (oi:=_) (v:=undef) (some 39) rfl rfl (by kernel_rfl) (by kernel_rfl) (by kernel_rfl) (fun _ a b _ e h=>by cases a;cases b;cases e;exact h) (Or.inr ⟨by go_simp;try (intro h;cases h),rfl⟩) hH ?rz539
      (try simp only[Qa7,Act.put,List.setIfInBounds_toArray,List.set_cons_zero,List.set_cons_succ])
      refine Qbg (i:=18) (oi:=_) (v:=undef) (some 40) rfl rfl (by kernel_rfl) (by kernel_rfl) (by kernel_rfl) (fun _ a b _ e h=>by cases a;cases b;cases e;exact h) (Or.inr ⟨by go_simp;try (intro h;cases h),rfl⟩) hH ?rz540
      (try simp only[Qa7,Act.put,List.setIfInBounds_toArray,List.set_cons_zero,List.set_cons_succ])
      refine Qbg (i:=19) (oi:=_) (v:=undef) (some 41) rfl rfl (by kernel_rfl) (by kernel_rfl) (by kernel_rfl) (fun _ a b _ e h=>by cases a;cases b;cases e;exact h) (Or.inr ⟨by go_simp;try (intro h;cases h),rfl⟩) hH ?rz541
      (try simp only[Qa7,Act.put,List.setIfInBounds_toArray,List.set_cons_zero,List.set_cons_succ])
      refine Qbg (i:=20) (oi:=_) (v:=undef) (some 42) rfl rfl (by kernel_rfl) (by kernel_rfl) (by kernel_rfl) (fun _ a b _ e h=>by cases a;cases b;cases e;exact h) (Or.inr ⟨by go_simp;try (intro h;cases h),rfl⟩) hH ?rz542
      (try simp only[Qa7,Act.put,List.setIfInBounds_toArray,List.set_cons_zero,List.set_cons_succ])
      refine Qbg (i:=21) (oi:=_) (v:=undef) (some 43) rfl rfl (by kernel_rfl) (by kernel_rfl) (by kernel_rfl) (fun _ a b _ e h=>by cases a;cases b;cases e;exact h) (Or.inr ⟨by go_simp;try (intro h;cases h),rfl⟩) hH ?rz543
      (try simp only[Qa7,Act.put,List.setIfInBounds_toArray,List.set_cons_zero,List.set_cons_succ])
      refine Qbg (i:=22) (oi:=_) (v:=undef) (some 44) rfl rfl (by kernel_rfl) (by kernel_rfl) (by kernel_rfl) (fun _ a b _ e h=>by cases a;cases b;cases e;exact h) (Or.inr ⟨by go_simp;try (intro h;cases h),rfl⟩) hH ?rz544
      (try simp only[Qa7,Act.put,List.setIfInBounds_toArray,List.set_cons_zero,List.set_cons_succ])
      refine Qbg (i:=23) (oi:=_) (v:=undef) (some 45) rfl rfl (by kernel_rfl) (by kernel_rfl) (by kernel_rfl) (fun _ a b _ e h=>by cases a;cases b;cases e;exact h) (Or.inr ⟨by go_simp;try (intro h;cases h),rfl⟩) hH ?rz545
      (try simp only[Qa7,Act.put,List.setIfInBounds_toArray,List.set_cons_zero,List.set_cons_succ])
      refine Qbg (i:=24) (oi:=_) (v:=.bool true) (some 46) rfl rfl (by kernel_rfl) (by kernel_rfl) (by kernel_rfl) (fun _ a b _ e h=>by cases a;cases b;cases e;exact h) (Or.inl ⟨by rfl,?yz546⟩) hH ?rz546
      case yz546=>intro w' hS';obtain⟨s0,s1⟩:=hS';obtain⟨r1,f1⟩:=s0.rules;go_simp;try with_reducible rfl
      (try simp only[Qa7,Act.put,List.setIfInBounds_toArray,List.set_cons_zero,List.set_cons_succ])
      have he2:=hH.2
      clear hH
      refine wpAnyH_done (by kernel_rfl) ?_ _
      go_wp2_with fail
      go_ret
      exact⟨Qam E.out.symm,he2⟩
    · skip
      (try simp only[Qa7,Act.put,List.setIfInBounds_toArray,List.set_cons_zero,List.set_cons_succ])
      refine Qbg (i:=8) (oi:=_) (v:=.bool false) (some 30) rfl rfl (by kernel_rfl) (by kernel_rfl) (by kernel_rfl) (fun _ a b _ e h=>by cases a;cases b;cases e;exact h) (Or.inl ⟨by rfl,?yz547⟩) hH ?rz547
      case yz547=>intro w' hS';obtain⟨s0,s1⟩:=hS';obtain⟨r1,f1⟩:=s0.rules;go_simp;try with_reducible rfl
      (try simp only[Qa7,Act.put,List.setIfInBounds_toArray,List.set_cons_zero,List.set_cons_succ])
      refine Qbg (i:=9) (oi:=_) (v:=.bool false) (some 31) rfl rfl (by kernel_rfl) (by kernel_rfl) (by kernel_rfl) (fun _ a b _ e h=>by cases a;cases b;cases e;exact h) (Or.inl ⟨by rfl,?yz548⟩) hH ?rz548
      case yz548=>intro w' hS';obtain⟨s0,s1⟩:=hS';obtain⟨r1,f1⟩:=s0.rules;go_simp;try with_reducible rfl
      (try simp only[Qa7,Act.put,List.setIfInBounds_toArray,List.set_cons_zero,List.set_cons_succ])
      refine Qbg (i:=10) (oi:=_) (v:=.bool false) (some 32) rfl rfl (by kernel_rfl) (by kernel_rfl) (by kernel_rfl) (fun _ a b _ e h=>by cases a;cases b;cases e;exact h) (Or.inl ⟨by rfl,?yz549⟩) hH ?rz549
      case yz549=>intro w' hS';obtain⟨s0,s1⟩:=hS';obtain⟨r1,f1⟩:=s0.rules;go_simp;try with_reducible rfl
      (try simp only[Qa7,Act.put,List.setIfInBounds_toArray,List.set_cons_zero,List.set_cons_succ])
      refine Qbg (i:=11) (oi:=_) (v:=.int .i64 (k:Int)) (some 33) rfl rfl (by kernel_rfl) (by kernel_rfl) (by kernel_rfl) (fun _ a b _ e h=>by cases a;cases b;cases e;exact h) (Or.inl ⟨by rfl,?yz550⟩) hH ?rz550
      case yz550=>intro w' hS';obtain⟨s0,s1⟩:=hS';obtain⟨r1,f1⟩:=s0.rules;go_simp;try with_reducible rfl
      (try simp only[Qa7,Act.put,List.setIfInBounds_toArray,List.set_cons_zero,List.set_cons_succ])
      by_cases k0:k=0
      · have E:=hU (show Qed (Qeh n l) (k+1)=true from Qe9 Hi.out (by rw[Qtc Hdl.out k0,p1,p2];rfl))
        have g0:decide ((0:Int)<(k:Int))=false:=decide_eq_false (by omega)
        refine Qbg (i:=12) (oi:=_) (v:=.bool false) (some 34) rfl rfl (by kernel_rfl) (by kernel_rfl) (by kernel_rfl) (fun _ a b _ e h=>by cases a;cases b;cases e;exact h) (Or.inl ⟨by rfl,?yz551⟩) hH ?rz551
        case yz551=>intro w' hS';obtain⟨s0,s1⟩:=hS';obtain⟨r1,f1⟩:=s0.rules;go_simp;try with_reducible rfl
        (try simp only[Qa7,Act.put,List.setIfInBounds_toArray,List.set_cons_zero,List.set_cons_succ])
        refine Qbg (i:=13) (oi:=_) (v:=.bool false) (some 35) rfl rfl (by kernel_rfl) (by kernel_rfl) (by kernel_rfl) (fun _ a b _ e h=>by cases a;cases b;cases e;exact h) (Or.inl ⟨by rfl,?yz552⟩) hH ?rz552
        case yz552=>intro w' hS';obtain⟨s0,s1⟩:=hS';obtain⟨r1,f1⟩:=s0.rules;go_simp;try with_reducible rfl
        (try simp only[Qa7,Act.put,List.setIfInBounds_toArray,List.set_cons_zero,List.set_cons_succ])
        refine Qbg (i:=14) (oi:=_) (v:=undef) (some 36) rfl rfl (by kernel_rfl) (by kernel_rfl) (by kernel_rfl) (fun _ a b _ e h=>by cases a;cases b;cases e;exact h) (Or.inr ⟨by go_simp;try (intro h;cases h),rfl⟩) hH ?rz553
        (try simp only[Qa7,Act.put,List.setIfInBounds_toArray,List.set_cons_zero,List.set_cons_succ])
        refine Qbg (i:=15) (oi:=_) (v:=undef) (some 37) rfl rfl (by kernel_rfl) (by kernel_rfl) (by kernel_rfl) (fun _ a b _ e h=>by cases a;cases b;cases e;exact h) (Or.inr ⟨by go_simp;try (intro h;cases h),rfl⟩) hH ?rz554
        (try simp only[Qa7,Act.put,List.setIfInBounds_toArray,List.set_cons_zero,List.set_cons_succ])
        refine Qbg (i:=16) (oi:=_) (v:=undef) (some 38) rfl rfl (by kernel_rfl) (by kernel_rfl) (by kernel_rfl) (fun _ a b _ e h=>by cases a;cases b;cases e;exact h) (Or.inr ⟨by go_simp;try (intro h;cases h),rfl⟩) hH ?rz555
        (try simp only[Qa7,Act.put,List.setIfInBounds_toArray,List.set_cons_zero,List.set_cons_succ])
        refine Qbg (i:=17) (oi:=_) (v:=undef) (some 39) rfl rfl (by kernel_rfl) (by kernel_rfl) (by kernel_rfl) (fun _ a b _ e h=>by cases a;cases b;cases e;exact h) (Or.inr ⟨by go_simp;try (intro h;cases h),rfl⟩) hH ?rz556
        (try simp only[Qa7,Act.put,List.setIfInBounds_toArray,List.set_cons_zero,List.set_cons_succ])
        refine Qbg (i:=18) (oi:=_) (v:=undef) (some 40) rfl rfl (by kernel_rfl) (by kernel_rfl) (by kernel_rfl) (fun _ a b _ e h=>by cases a;cases b;cases e;exact h) (Or.inr ⟨by go_simp;try (intro h;cases h),rfl⟩) hH ?rz557
        (try simp only[Qa7,Act.put,List.setIfInBounds_toArray,List.set_cons_zero,List.set_cons_succ])
        refine Qbg (i:=19) (oi:=_) (v:=undef) (some 41) rfl rfl (by kernel_rfl) (by kernel_rfl) (by kernel_rfl) (fun _ a b _ e h=>by cases a;cases b;cases e;exact h) (Or.inr ⟨by go_simp;try (intro h;cases h),rfl⟩) hH ?rz558
        (try simp only[Qa7,Act.put,List.setIfInBounds_toArray,List.set_cons_zero,List.set_cons_succ])
        refine Qbg (i:=20) (oi:=_) (v:=undef) (some 42) rfl rfl (by kernel_rfl) (by kernel_rfl) (by kernel_rfl) (fun _ a b _ e h=>by cases a;cases b;cases e;exact h) (Or.inr ⟨by go_simp;try (intro h;cases h),rfl⟩) hH ?rz559
        (try simp only[Qa7,Act.put,List.setIfInBounds_toArray,List.set_cons_zero,List.set_cons_succ])
        refine Qbg (i:=21) (oi:=_) (v:=undef) (some 43) rfl rfl (by kernel_rfl) (by kernel_rfl) (by kernel_rfl) (fun _ a b _ e h=>by cases a;cases b;cases e;exact h) (Or.inr ⟨by go_simp;try (intro h;cases h),rfl⟩) hH ?rz560
        (try simp only[Qa7,Act.put,List.setIfInBounds_toArray,List.set_cons_zero,List.set_cons_succ])
        refine Qbg (i:=22) (oi:=_) (v:=undef) (some 44) rfl rfl (by kernel_rfl) (by kernel_rfl) (by kernel_rfl) (fun _ a b _ e h=>by cases a;cases b;cases e;exact h) (Or.inr ⟨by go_simp;try (intro h;cases h),rfl⟩) hH ?rz561
        (try simp only[Qa7,Act.put,List.setIfInBounds_toArray,List.set_cons_zero,List.set_cons_succ])
        refine Qbg (i:=23) (oi:=_) (v:=.bool false) (some 45) rfl rfl (by kernel_rfl) (by kernel_rfl) (by kernel_rfl) (fun _ a b _ e h=>by cases a;cases b;cases e;exact h) (Or.inl ⟨by rfl,?yz562⟩) hH ?rz562
        case yz562=>intro w' hS';obtain⟨s0,s1⟩:=hS';obtain⟨r1,f1⟩:=s0.rules;go_simp;try with_reducible rfl
        (try simp only[Qa7,Act.put,List.setIfInBounds_toArray,List.set_cons_zero,List.set_cons_succ])
        refine Qbg (i:=24) (oi:=_) (v:=.bool false) (some 46) rfl rfl (by kernel_rfl) (by kernel_rfl) (by kernel_rfl) (fun _ a b _ e h=>by cases a;cases b;cases e;exact h) (Or.inl ⟨by rfl,?yz563⟩) hH ?rz563
        case yz563=>intro w' hS';obtain⟨s0,s1⟩:=hS';obtain⟨r1,f1⟩:=s0.rules;go_simp;try with_reducible rfl
        (try simp only[Qa7,Act.put,List.setIfInBounds_toArray,List.set_cons_zero,List.set_cons_succ])
        have he2:=hH.2
        clear hH
        refine wpAnyH_done (by kernel_rfl) ?_ _
        go_wp2_with fail
        go_roundw
        case rel=>exact⟨k+1,by omega,by go_num,E.out,he2⟩
        case measure=>simp[intOf];omega
      · obtain⟨j,hj⟩:∃ j,k=j+1:=⟨k-1,by omega⟩
        obtain⟨e,hel⟩:∃ e,l[j]?=some e:=⟨l[j]'(by omega),List.getElem?_eq_getElem (by omega)⟩
        have hjl:j<l.length:=by omega
        have g0:decide ((0:Int)<(k:Int))=true:=decide_eq_true (by omega)
        have hkp:0<k:=by omega
        have hkj:(k:Int)-1=(j:Int):=by omega
        have hjw:IntKind.i64.wrap (j:Int)=(j:Int):=IntWalk.i64_in _ (by omega)
        have HA:=hU (Qtd (n:=n) Hdl.out hj hel)
        have Hel:=hU hel
        have Hj:=hU hj
        clear hel hj
        refine Qbg (i:=12) (oi:=_) (v:=.bool true) (some 34) rfl rfl (by kernel_rfl) (by kernel_rfl) (by kernel_rfl) (fun _ a b _ e h=>by cases a;cases b;cases e;exact h) (Or.inl ⟨by rfl,?yz564⟩) hH ?rz564
        case yz564=>intro w' hS';obtain⟨s0,s1⟩:=hS';obtain⟨r1,f1⟩:=s0.rules;obtain⟨d0,d1,d2,d3,d4⟩:=Qbz (HR.out.ext s1) Hel.out;go_simp;try with_reducible rfl
        (try simp only[Qa7,Act.put,List.setIfInBounds_toArray,List.set_cons_zero,List.set_cons_succ])
        refine Qbg (i:=13) (oi:=_) (v:=.bool true) (some 35) rfl rfl (by kernel_rfl) (by kernel_rfl) (by kernel_rfl) (fun _ a b _ e h=>by cases a;cases b;cases e;exact h) (Or.inl ⟨by rfl,?yz565⟩) hH ?rz565
        case yz565=>intro w' hS';obtain⟨s0,s1⟩:=hS';obtain⟨r1,f1⟩:=s0.rules;obtain⟨d0,d1,d2,d3,d4⟩:=Qbz (HR.out.ext s1) Hel.out;go_simp;try with_reducible rfl
        (try simp only[Qa7,Act.put,List.setIfInBounds_toArray,List.set_cons_zero,List.set_cons_succ])
        refine Qbg (i:=14) (oi:=_) (v:=.int .i64 n) (some 36) rfl rfl (by kernel_rfl) (by kernel_rfl) (by kernel_rfl) (fun _ a b _ e h=>by cases a;cases b;cases e;exact h) (Or.inl ⟨by rfl,?yz566⟩) hH ?rz566
        case yz566=>intro w' hS';obtain⟨s0,s1⟩:=hS';obtain⟨r1,f1⟩:=s0.rules;obtain⟨d0,d1,d2,d3,d4⟩:=Qbz (HR.out.ext s1) Hel.out;go_simp;try with_reducible rfl
        (try simp only[Qa7,Act.put,List.setIfInBounds_toArray,List.set_cons_zero,List.set_cons_succ])
        refine Qbg (i:=15) (oi:=_) (v:=.slice (some ⟨b,off,none⟩) l.length c) (some 37) rfl rfl (by kernel_rfl) (by kernel_rfl) (by kernel_rfl) (fun _ a b _ e h=>by cases a;cases b;cases e;exact h) (Or.inl ⟨by rfl,?yz567⟩) hH ?rz567
        case yz567=>intro w' hS';obtain⟨s0,s1⟩:=hS';obtain⟨r1,f1⟩:=s0.rules;obtain⟨d0,d1,d2,d3,d4⟩:=Qbz (HR.out.ext s1) Hel.out;go_simp;try with_reducible rfl
        (try simp only[Qa7,Act.put,List.setIfInBounds_toArray,List.set_cons_zero,List.set_cons_succ])
        refine Qbg (i:=16) (oi:=_) (v:=.int .i64 (k:Int)) (some 38) rfl rfl (by kernel_rfl) (by kernel_rfl) (by kernel_rfl) (fun _ a b _ e h=>by cases a;cases b;cases e;exact h) (Or.inl ⟨by rfl,?yz568⟩) hH ?rz568
        case yz568=>intro w' hS';obtain⟨s0,s1⟩:=hS';obtain⟨r1,f1⟩:=s0.rules;obtain⟨d0,d1,d2,d3,d4⟩:=Qbz (HR.out.ext s1) Hel.out;go_simp;try with_reducible rfl
        (try simp only[Qa7,Act.put,List.setIfInBounds_toArray,List.set_cons_zero,List.set_cons_succ])
        refine Qbg (i:=17) (oi:=_) (v:=.int .i64 (j:Int)) (some 39) rfl rfl (by kernel_rfl) (by kernel_rfl) (by kernel_rfl) (fun _ a b _ e h=>by cases a;cases b;cases e;exact h) (Or.inl ⟨by rfl,?yz569⟩) hH ?rz569
        case yz569=>intro w' hS';obtain⟨s0,s1⟩:=hS';obtain⟨r1,f1⟩:=s0.rules;obtain⟨d0,d1,d2,d3,d4⟩:=Qbz (HR.out.ext s1) Hel.out;go_simp;try with_reducible rfl
        (try simp only[Qa7,Act.put,List.setIfInBounds_toArray,List.set_cons_zero,List.set_cons_succ])
        refine Qbg (i:=18) (oi:=_) (v:=.pointer (some ⟨b,off+j*5,none⟩)) (some 40) rfl rfl (by kernel_rfl) (by kernel_rfl) (by kernel_rfl) (fun _ a b _ e h=>by cases a;cases b;cases e;exact h) (Or.inl ⟨by rfl,?yz570⟩) hH ?rz570
        case yz570=>intro w' hS';obtain⟨s0,s1⟩:=hS';obtain⟨r1,f1⟩:=s0.rules;obtain⟨d0,d1,d2,d3,d4⟩:=Qbz (HR.out.ext s1) Hel.out;go_simp;try with_reducible rfl
        (try simp only[Qa7,Act.put,List.setIfInBounds_toArray,List.set_cons_zero,List.set_cons_succ])
        refine Qbg (i:=19) (oi:=_) (v:=.agg #[.int .i64 e.number,.int .i64 e.size,.string e.root,.int .i64 e.taken,.string e.takenRoot]) (some 41) rfl rfl (by kernel_rfl) (by kernel_rfl) (by kernel_rfl) (fun _ a b _ e h=>by cases a;cases b;cases e;exact h) (Or.inl ⟨by rfl,?yz571⟩) hH ?rz571
        case yz571=>intro w' hS';obtain⟨s0,s1⟩:=hS';obtain⟨r1,f1⟩:=s0.rules;obtain⟨d0,d1,d2,d3,d4⟩:=Qbz (HR.out.ext s1) Hel.out;go_simp;try with_reducible rfl
        (try simp only[Qa7,Act.put,List.setIfInBounds_toArray,List.set_cons_zero,List.set_cons_succ])
        refine Qbg (i:=20) (oi:=_) (v:=.agg #[.int .i64 d.number,.int .i64 d.size,.string d.root,.int .i64 d.taken,.string d.takenRoot]) (some 42) rfl rfl (by kernel_rfl) (by kernel_rfl) (by kernel_rfl) (fun _ a b _ e h=>by cases a;cases b;cases e;exact h) (Or.inl ⟨by rfl,?yz572⟩) hH ?rz572
        case yz572=>intro w' hS';obtain⟨s0,s1⟩:=hS';obtain⟨r1,f1⟩:=s0.rules;obtain⟨d0,d1,d2,d3,d4⟩:=Qbz (HR.out.ext s1) Hel.out;go_simp;try with_reducible rfl
        (try simp only[Qa7,Act.put,List.setIfInBounds_toArray,List.set_cons_zero,List.set_cons_succ])
        refine Qu5 21 (oi:=_) (some 43) (by kernel_rfl) rfl (by rfl) rfl (fun K' hK=>?_)
        refine⟨?_⟩
        rw[if_pos (by rfl)]
        go_simp
        refine(Qnn n e d _).mono ?_
        rintro e w2 ⟨rfl,h1⟩
        refine hK.out _ _ ⟨_,rfl⟩ (⟨hH.1.ext h1,hH.2.next h1⟩) (fun hH2=>?_)
        clear hK K' hH h1
        have hH:=hH2
        clear hH2
        cases p3:Qcc n e d
        · have E:=hU (show fin=false by rw[F.out];exact Qd2 (k:=k) (by rw[HA.out,p3,Bool.and_false]) _ hlt)
          (try simp only[Qa7,Act.put,List.setIfInBounds_toArray,List.set_cons_zero,List.set_cons_succ])
          refine Qbg (i:=22) (oi:=_) (v:=.bool true) (some 44) rfl rfl (by kernel_rfl) (by kernel_rfl) (by kernel_rfl) (fun _ a b _ e h=>by cases a;cases b;cases e;exact h) (Or.inl ⟨by rfl,?yz573⟩) hH ?rz573
          case yz573=>intro w' hS';obtain⟨s0,s1⟩:=hS';obtain⟨r1,f1⟩:=s0.rules;obtain⟨d0,d1,d2,d3,d4⟩:=Qbz (HR.out.ext s1) Hel.out;go_simp;try with_reducible rfl
          (try simp only[Qa7,Act.put,List.setIfInBounds_toArray,List.set_cons_zero,List.set_cons_succ])
          refine Qbg (i:=23) (oi:=_) (v:=.bool true) (some 45) rfl rfl (by kernel_rfl) (by kernel_rfl) (by kernel_rfl) (fun _ a b _ e h=>by cases a;cases b;cases e;exact h) (Or.inl ⟨by rfl,?yz574⟩) hH ?rz574
          case yz574=>intro w' hS';obtain⟨s0,s1⟩:=hS';obtain⟨r1,f1⟩:=s0.rules;obtain⟨d0,d1,d2,d3,d4⟩:=Qbz (HR.out.ext s1) Hel.out;go_simp;try with_reducible rfl
          (try simp only[Qa7,Act.put,List.setIfInBounds_toArray,List.set_cons_zero,List.set_cons_succ])
          refine Qbg (i:=24) (oi:=_) (v:=.bool true) (some 46) rfl rfl (by kernel_rfl) (by kernel_rfl) (by kernel_rfl) (fun _ a b _ e h=>by cases a;cases b;cases e;exact h) (Or.inl ⟨by rfl,?yz575⟩) hH ?rz575
          case yz575=>intro w' hS';obtain⟨s0,s1⟩:=hS';obtain⟨r1,f1⟩:=s0.rules;obtain⟨d0,d1,d2,d3,d4⟩:=Qbz (HR.out.ext s1) Hel.out;go_simp;try with_reducible rfl
          (try simp only[Qa7,Act.put,List.setIfInBounds_toArray,List.set_cons_zero,List.set_cons_succ])
          have he2:=hH.2
          clear hH
          refine wpAnyH_done (by kernel_rfl) ?_ _
          go_wp2_with fail
          go_ret
          exact⟨Qam E.out.symm,he2⟩
        · have E:=hU (show Qed (Qeh n l) (k+1)=true from Qe9 Hi.out (by rw[HA.out,p1,p2,p3];rfl))
          (try simp only[Qa7,Act.put,List.setIfInBounds_toArray,List.set_cons_zero,List.set_cons_succ])
          refine Qbg (i:=22) (oi:=_) (v:=.bool false) (some 44) rfl rfl (by kernel_rfl) (by kernel_rfl) (by kernel_rfl) (fun _ a b _ e h=>by cases a;cases b;cases e;exact h) (Or.inl ⟨by rfl,?yz576⟩) hH ?rz576
          case yz576=>intro w' hS';obtain⟨s0,s1⟩:=hS';obtain⟨r1,f1⟩:=s0.rules;obtain⟨d0,d1,d2,d3,d4⟩:=Qbz (HR.out.ext s1) Hel.out;go_simp;try with_reducible rfl
          (try simp only[Qa7,Act.put,List.setIfInBounds_toArray,List.set_cons_zero,List.set_cons_succ])
          refine Qbg (i:=23) (oi:=_) (v:=.bool false) (some 45) rfl rfl (by kernel_rfl) (by kernel_rfl) (by kernel_rfl) (fun _ a b _ e h=>by cases a;cases b;cases e;exact h) (Or.inl ⟨by rfl,?yz577⟩) hH ?rz577
          case yz577=>intro w' hS';obtain⟨s0,s1⟩:=hS';obtain⟨r1,f1⟩:=s0.rules;obtain⟨d0,d1,d2,d3,d4⟩:=Qbz (HR.out.ext s1) Hel.out;go_simp;try with_reducible rfl
          (try simp only[Qa7,Act.put,List.setIfInBounds_toArray,List.set_cons_zero,List.set_cons_succ])
          refine Qbg (i:=24) (oi:=_) (v:=.bool false) (some 46) rfl rfl (by kernel_rfl) (by kernel_rfl) (by kernel_rfl) (fun _ a b _ e h=>by cases a;cases b;cases e;exact h) (Or.inl ⟨by rfl,?yz578⟩) hH ?rz578
          case yz578=>intro w' hS';obtain⟨s0,s1⟩:=hS';obtain⟨r1,f1⟩:=s0.rules;obtain⟨d0,d1,d2,d3,d4⟩:=Qbz (HR.out.ext s1) Hel.out;go_simp;try with_reducible rfl
          (try simp only[Qa7,Act.put,List.setIfInBounds_toArray,List.set_cons_zero,List.set_cons_succ])
          have he2:=hH.2
          clear hH
          refine wpAnyH_done (by kernel_rfl) ?_ _
          go_wp2_with fail
          go_roundw
          case rel=>exact⟨k+1,by omega,by go_num,E.out,he2⟩
          case measure=>simp[intOf];omega
end Go.Proofs.YtbnkjgcpjeedfaaGreat
