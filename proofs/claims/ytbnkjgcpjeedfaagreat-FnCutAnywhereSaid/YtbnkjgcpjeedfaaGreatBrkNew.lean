/-
  CopyB; StoreL; BrkNew: No condition.
-/
import Derived.Test.YtbnkjgcpjeedfaaGreatBrkV
import Derived.Test.YtbnkjgcpjeedfaaGreatRowTx
namespace Go.Proofs.YtbnkjgcpjeedfaaGreat
set_option maxHeartbeats 1000000
set_option maxRecDepth 100000
set_option linter.unusedSimpArgs false
open Go.RowKit
set_option linter.unusedVariables false
theorem infR:(Tryz.prog.info? 42).map (fun i=>(i.zero,i.size,i.bytes))=some (some (.agg #[.string ⟨#[]⟩,.string ⟨#[]⟩,.int .i64 0]),3,40):=by kernel_rfl
theorem infH:(Tryz.prog.info? 33).map (fun i=>(i.zero,i.size,i.bytes))=some (some (.agg #[.int .i64 0,.int .i64 0,.string ⟨#[]⟩,.int .i64 0,.string ⟨#[]⟩]),5,56):=by kernel_rfl
theorem infE:(Tryz.prog.info? 40).map (fun i=>(i.zero,i.size,i.bytes))=some (some (.agg #[.string ⟨#[]⟩,.int .i64 0,.int .i64 0,.string ⟨#[]⟩,.string ⟨#[]⟩]),5,64):=by kernel_rfl
theorem infS:(Tryz.prog.info? 9).map (fun i=>(i.zero,i.size,i.bytes))=some (some (.string ⟨#[]⟩),1,16):=by kernel_rfl
theorem Qiq{w w':World}{x:Value}{m size:Nat}{news:List Value}{B:Nat}(h:SrcL w x m size news)(he:Below B w w')(hB:B=w.heap.size):SrcL w' x m size news:=by
 refine Qwn h fun p u hu=>?_
 subst hB
 by_cases hb:p.block<w.heap.size
 · exact(Below.cell he (p:=p) hb).trans hu
 · exfalso
   have:w.heap[p.block]?=none:=Array.getElem?_eq_none (by omega)
   simp[World.cell?,this] at hu
theorem Qdp{w:World}{B size n c:Nat}{A:Option Addr}{xs:List Value}(h:Qbb w B size A n xs):SrcL w (.slice A n c) n size xs:=by
 cases A with
 | none=>
   have hn:n=0:=by
    rcases Nat.eq_zero_or_pos n with h0|h0
    · exact h0
    · obtain⟨b,off,e,_⟩:=h.2 h0;cases e
   subst hn
   have hx:xs=[]:=List.eq_nil_of_length_eq_zero (by simpa using h.1)
   exact .inl ⟨⟨c,rfl⟩,rfl,hx⟩
 | some a=>
   refine .inr ⟨a,c,rfl,h.1,fun j u hu=>?_⟩
   have hn:0<n:=by
    rcases Nat.eq_zero_or_pos n with h0|h0
    · subst h0
      have hx:xs=[]:=List.eq_nil_of_length_eq_zero (by simpa using h.1)
      rw[hx] at hu;simp at hu
    · exact h0
   obtain⟨b,off,e,_,hc⟩:=h.2 hn
   cases e
   have h2:=hc j u hu
   unfold Addr.add
   split
   · rename_i h3;rw[h3,Nat.add_zero] at h2;exact h2
   · exact h2
theorem Qq4(A:Option Addr)(c:Nat)(l:List Qab)(w:World)(s:SlF AnyB Qab.cells 3 w A l c)(hl:l.length<=1048576) :
 Calls Tryz.prog 170 #[.slice A l.length c] w fun e w'=>∃ v,e=.returned v/\w'.ownsRow w.heap.size 42 3 v l.length (l.flatMap Qab.cells)/\Ext w w':=by
 obtain⟨i0,hi,hz0,hz1,hz2⟩:=info_parts infR
 have SR:=hU (Qdp (c:=c) s.reads)
 have K0:=hU (Blk.new w 42 #[])
 have E0:=hU (Ext.new (Below.refl w.heap.size w) (.cells #[] 42))
 have OC:=hU (show ∀ u∈l.flatMap Qab.cells,u.oneCell'=true from fun u hu=>by
  obtain⟨x,_,hx⟩:=List.mem_flatMap.1 hu
  simp only[Qab.cells,List.mem_cons,List.not_mem_nil,or_false] at hx
  rcases hx with rfl|rfl|rfl <;> rfl)
 cases A with
 | none=>
   have hn:l.length=0:=by
    rcases Nat.eq_zero_or_pos l.length with h0|h0
    · exact h0
    · obtain⟨b,off,e,_⟩:=s.reads.2 h0;cases e
   have hx:l=[]:=List.eq_nil_of_length_eq_zero hn
   have hc:c=c:=rfl
   subst hx
   clear s hc hn
   have NE:∀ W,Sem.run Tryz.prog (binOp BinOp.eql 27 (Value.slice none 0 c) (Value.slice none 0 0)) W=.ok (.bool true) W:=fun W=>by rfl
   go_enter Tryz.func170,Tryz.ntmps170
   go_wp2_with fail
   go_ret
   exact⟨_,rfl,World.ownsRow_nil _ _ _ _,Below.refl _ _⟩
 | some a=>
   clear s
   obtain⟨n,hn⟩:∃ n,n=l.length:=⟨_,rfl⟩
   rw[<-hn] at SR hl
   rw[<-hn]
   obtain⟨X,hX⟩:∃ X,X=l.flatMap Qab.cells:=⟨_,rfl⟩
   rw[<-hX] at SR OC
   rw[<-hX]
   clear hn hX
   have NE:∀ W,Sem.run Tryz.prog (binOp BinOp.eql 27 (Value.slice (some a) n c) (Value.slice none 0 0)) W=.ok (.bool false) W:=fun W=>by rfl
   go_enter Tryz.func170,Tryz.ntmps170
   go_wp2_with (at_builtin;(refine Qbv rfl _ _ 27 rfl w.heap.size w.heap.size 42 i0 (.agg #[.string ⟨#[]⟩,.string ⟨#[]⟩,.int .i64 0]) 3 40 Tryz.underlying27 hi hz0 hz1 hz2 rfl (by decide) rfl K0.out (Nat.le_refl _) _ n X rfl (Qiq SR.out E0.out rfl) OC.out (by unfold maxLen;omega) (by omega) ?_))
   intro v' w1 ho h1
   have OO:=hU ho;have EE:=hU (E0.out.next h1)
   clear ho h1
   go_wp2_with fail
   go_ret
   exact⟨_,rfl,OO.out,EE.out⟩
theorem Qv4(A:Option Addr)(c:Nat)(l:List Qak)(w:World)(s:SlF AnyB Qak.cells 5 w A l c)(hl:l.length<=1048576) :
 Calls Tryz.prog 171 #[.slice A l.length c] w fun e w'=>∃ v,e=.returned v/\w'.ownsRow w.heap.size 33 5 v l.length (l.flatMap Qak.cells)/\Ext w w':=by
 obtain⟨i0,hi,hz0,hz1,hz2⟩:=info_parts infH
 have SR:=hU (Qdp (c:=c) s.reads)
 have K0:=hU (Blk.new w 33 #[])
 have E0:=hU (Ext.new (Below.refl w.heap.size w) (.cells #[] 33))
 have OC:=hU (show ∀ u∈l.flatMap Qak.cells,u.oneCell'=true from fun u hu=>by
  obtain⟨x,_,hx⟩:=List.mem_flatMap.1 hu
  simp only[Qak.cells,List.mem_cons,List.not_mem_nil,or_false] at hx
  rcases hx with rfl|rfl|rfl|rfl|rfl <;> rfl)
 cases A with
 | none=>
   have hn:l.length=0:=by
    rcases Nat.eq_zero_or_pos l.length with h0|h0
    · exact h0
    · obtain⟨b,off,e,_⟩:=s.reads.2 h0;cases e
   have hx:l=[]:=List.eq_nil_of_length_eq_zero hn
   have hc:c=c:=rfl
   subst hx
   clear s hc hn
   have NE:∀ W,Sem.run Tryz.prog (binOp BinOp.eql 28 (Value.slice none 0 c) (Value.slice none 0 0)) W=.ok (.bool true) W:=fun W=>by rfl
   go_enter Tryz.func171,Tryz.ntmps171
   go_wp2_with fail
   go_ret
   exact⟨_,rfl,World.ownsRow_nil _ _ _ _,Below.refl _ _⟩
 | some a=>
   clear s
   obtain⟨n,hn⟩:∃ n,n=l.length:=⟨_,rfl⟩
   rw[<-hn] at SR hl
   rw[<-hn]
   obtain⟨X,hX⟩:∃ X,X=l.flatMap Qak.cells:=⟨_,rfl⟩
   rw[<-hX] at SR OC
   rw[<-hX]
   clear hn hX
   have NE:∀ W,Sem.run Tryz.prog (binOp BinOp.eql 28 (Value.slice (some a) n c) (Value.slice none 0 0)) W=.ok (.bool false) W:=fun W=>by rfl
   go_enter Tryz.func171,Tryz.ntmps171
   go_wp2_with (at_builtin;(refine Qbv rfl _ _ 28 rfl w.heap.size w.heap.size 33 i0 (.agg #[.int .i64 0,.int .i64 0,.string ⟨#[]⟩,.int .i64 0,.string ⟨#[]⟩]) 5 56 Tryz.underlying28 hi hz0 hz1 hz2 rfl (by decide) rfl K0.out (Nat.le_refl _) _ n X rfl (Qiq SR.out E0.out rfl) OC.out (by unfold maxLen;omega) (by omega) ?_))
   intro v' w1 ho h1
   have OO:=hU ho;have EE:=hU (E0.out.next h1)
   clear ho h1
   go_wp2_with fail
   go_ret
   exact⟨_,rfl,OO.out,EE.out⟩
theorem Qtx(A:Option Addr)(c:Nat)(l:List Qaf)(w:World)(s:SlF AnyB Qaf.cells 5 w A l c)(hl:l.length<=1048576) :
 Calls Tryz.prog 230 #[.slice A l.length c] w fun e w'=>∃ v,e=.returned v/\w'.ownsRow w.heap.size 40 5 v l.length (l.flatMap Qaf.cells)/\Ext w w':=by
 obtain⟨i0,hi,hz0,hz1,hz2⟩:=info_parts infE
 have SR:=hU (Qdp (c:=c) s.reads)
 have K0:=hU (Blk.new w 40 #[])
 have E0:=hU (Ext.new (Below.refl w.heap.size w) (.cells #[] 40))
 have OC:=hU (show ∀ u∈l.flatMap Qaf.cells,u.oneCell'=true from fun u hu=>by
  obtain⟨x,_,hx⟩:=List.mem_flatMap.1 hu
  simp only[Qaf.cells,List.mem_cons,List.not_mem_nil,or_false] at hx
  rcases hx with rfl|rfl|rfl|rfl|rfl <;> rfl)
 cases A with
 | none=>
   have hn:l.length=0:=by
    rcases Nat.eq_zero_or_pos l.length with h0|h0
    · exact h0
    · obtain⟨b,off,e,_⟩:=s.reads.2 h0;cases e
   have hx:l=[]:=List.eq_nil_of_length_eq_zero hn
   have hc:c=c:=rfl
   subst hx
   clear s hc hn
   have NE:∀ W,Sem.run Tryz.prog (binOp BinOp.eql 24 (Value.slice none 0 c) (Value.slice none 0 0)) W=.ok (.bool true) W:=fun W=>by rfl
   go_enter Tryz.func230,Tryz.ntmps230
   go_wp2_with fail
   go_ret
   exact⟨_,rfl,World.ownsRow_nil _ _ _ _,Below.refl _ _⟩
 | some a=>
   clear s
   obtain⟨n,hn⟩:∃ n,n=l.length:=⟨_,rfl⟩
   rw[<-hn] at SR hl
   rw[<-hn]
   obtain⟨X,hX⟩:∃ X,X=l.flatMap Qaf.cells:=⟨_,rfl⟩
   rw[<-hX] at SR OC
   rw[<-hX]
   clear hn hX
   have NE:∀ W,Sem.run Tryz.prog (binOp BinOp.eql 24 (Value.slice (some a) n c) (Value.slice none 0 0)) W=.ok (.bool false) W:=fun W=>by rfl
   go_enter Tryz.func230,Tryz.ntmps230
   go_wp2_with (at_builtin;(refine Qbv rfl _ _ 24 rfl w.heap.size w.heap.size 40 i0 (.agg #[.string ⟨#[]⟩,.int .i64 0,.int .i64 0,.string ⟨#[]⟩,.string ⟨#[]⟩]) 5 64 Tryz.underlying24 hi hz0 hz1 hz2 rfl (by decide) rfl K0.out (Nat.le_refl _) _ n X rfl (Qiq SR.out E0.out rfl) OC.out (by unfold maxLen;omega) (by omega) ?_))
   intro v' w1 ho h1
   have OO:=hU ho;have EE:=hU (E0.out.next h1)
   clear ho h1
   go_wp2_with fail
   go_ret
   exact⟨_,rfl,OO.out,EE.out⟩
theorem Qpu(A:Option Addr)(c:Nat)(l:List ByteArray)(w:World)(s:SlF AnyB sone 1 w A l c)(hl:l.length<=1048576) :
 Calls Tryz.prog 122 #[.slice A l.length c] w fun e w'=>∃ v,e=.returned v/\w'.ownsRow w.heap.size 9 1 v l.length (l.flatMap sone)/\Ext w w':=by
 obtain⟨i0,hi,hz0,hz1,hz2⟩:=info_parts infS
 have SR:=hU (Qdp (c:=c) s.reads)
 have K0:=hU (Blk.new w 9 #[])
 have E0:=hU (Ext.new (Below.refl w.heap.size w) (.cells #[] 9))
 have OC:=hU (show ∀ u∈l.flatMap sone,u.oneCell'=true from fun u hu=>by
  obtain⟨x,_,hx⟩:=List.mem_flatMap.1 hu
  simp only[sone,List.mem_cons,List.not_mem_nil,or_false] at hx
  rcases hx with rfl <;> rfl)
 cases A with
 | none=>
   have hn:l.length=0:=by
    rcases Nat.eq_zero_or_pos l.length with h0|h0
    · exact h0
    · obtain⟨b,off,e,_⟩:=s.reads.2 h0;cases e
   have hx:l=[]:=List.eq_nil_of_length_eq_zero hn
   have hc:c=c:=rfl
   subst hx
   clear s hc hn
   have NE:∀ W,Sem.run Tryz.prog (binOp BinOp.eql 29 (Value.slice none 0 c) (Value.slice none 0 0)) W=.ok (.bool true) W:=fun W=>by rfl
   go_enter Tryz.func122,Tryz.ntmps122
   go_wp2_with fail
   go_ret
   exact⟨_,rfl,World.ownsRow_nil _ _ _ _,Below.refl _ _⟩
 | some a=>
   clear s
   obtain⟨n,hn⟩:∃ n,n=l.length:=⟨_,rfl⟩
   rw[<-hn] at SR hl
   rw[<-hn]
   obtain⟨X,hX⟩:∃ X,X=l.flatMap sone:=⟨_,rfl⟩
   rw[<-hX] at SR OC
   rw[<-hX]
   clear hn hX
   have NE:∀ W,Sem.run Tryz.prog (binOp BinOp.eql 29 (Value.slice (some a) n c) (Value.slice none 0 0)) W=.ok (.bool false) W:=fun W=>by rfl
   go_enter Tryz.func122,Tryz.ntmps122
   go_wp2_with (at_builtin;(refine Qbv rfl _ _ 29 rfl w.heap.size w.heap.size 9 i0 (.string ⟨#[]⟩) 1 16 Tryz.underlying29 hi hz0 hz1 hz2 rfl (by decide) rfl K0.out (Nat.le_refl _) _ n X rfl (Qiq SR.out E0.out rfl) OC.out (by unfold maxLen;omega) (by omega) ?_))
   intro v' w1 ho h1
   have OO:=hU ho;have EE:=hU (E0.out.next h1)
   clear ho h1
   go_wp2_with fail
   go_ret
   exact⟨_,rfl,OO.out,EE.out⟩
theorem Qac{P:Program}{ops:Array Oper}{rest:List Oper}{op:Oper}{a:Act}{w:World}{Q:Exit->Act->World->Prop}(hgd:op.guard=none)(ty:TypeId)(x y:Operand)(ho:op.op=.store ty x y)(hd:op.dst=none)
 (b o:Nat) (cells:List Value) (hx:a.eval x=.pointer (some ⟨b,o,none⟩)) (hy:a.eval y=.agg cells.toArray)
 (ht:w.there b o cells.length) (hi:(P.info? ty).map (·.size)=some cells.length) (h1:cells.all (·.oneCell')=true)
 (h:wpList P ops Q rest a (w.setCells b o cells)):wpList P ops Q (op :: rest) a w:=
 wpList_store_mid hgd ty x y ho b o cells.toArray hx hy (by simpa using ht) (by simpa using hi) (all_oneCell_toArray (List.all_eq_true.1 h1)) (by rw[hd];exact h)
theorem Qao{P:Program}{op:Oper}{a:Act}{w:World}{K:Act->World->Prop}{Q:Exit->Act->World->Prop}(ty:TypeId)(x y:Operand)(ho:op.op=.store ty x y)(hd:op.dst=none)
 (b o:Nat) (cells:List Value) (hx:a.eval x=.pointer (some ⟨b,o,none⟩)) (hy:a.eval y=.agg cells.toArray)
 (ht:w.there b o cells.length) (hi:(P.info? ty).map (·.size)=some cells.length) (h1:cells.all (·.oneCell')=true)
 (h:K a (w.setCells b o cells)):op.wp P a w K Q:=wp_store_mid ty x y ho b o cells.toArray hx hy (by simpa using ht) (by simpa using hi) (all_oneCell_toArray (List.all_eq_true.1 h1)) (by rw[hd];exact h)
set_option maxHeartbeats 2000000
def Qhu (h:Qak):List Value:=[.int .i64 0,.slice none 0 0,.int .i64 0,.slice none 0 0,.int .i64 h.number,.int .i64 h.size,.string h.root,.int .i64 h.taken,.string h.takenRoot]
def brokNC (n:Int) (v:Value) (h:Qak):List Value:=[.int .i64 n,.slice none 0 0,.slice none 0 0,v,.int .i64 0,.slice none 0 0,.int .i64 0,.slice none 0 0,.int .i64 h.number,.int .i64 h.size,.string h.root,.int .i64 h.taken,.string h.takenRoot]
theorem Qnk(n:Int)(w:World):Calls Tryz.prog 195 #[.int .i64 n] w fun e w'=>e=.returned (.tuple #[.agg (Qhu (newH (inR n 1 32) n)).toArray,.bool (inR n 1 32)])/\Ext w w':=by
 have K0:=hU (Blk.new w 35 #[.int .i64 0,.slice none 0 0,.int .i64 0,.slice none 0 0,.int .i64 0,.int .i64 0,.string ⟨#[]⟩,.int .i64 0,.string ⟨#[]⟩])
 have He:=hU (Ext.new (Below.refl w.heap.size w) (.cells #[.int .i64 0,.slice none 0 0,.int .i64 0,.slice none 0 0,.int .i64 0,.int .i64 0,.string ⟨#[]⟩,.int .i64 0,.string ⟨#[]⟩] 35))
 cases b1:inR n 1 32
 all_goals
  obtain⟨h,hh⟩:∃ h,h=newH (inR n 1 32) n:=⟨_,rfl⟩
  have Hh:=hU hh
  rw[b1] at hh
  rw[<-hh]
  clear hh
  go_enter Tryz.func195,Tryz.ntmps195
  go_wp2_with fail
  obtain⟨g,hg⟩:∃ g,g=w.heap.size:=⟨_,rfl⟩
  rw[<-hg] at K0
  rw[<-hg]
  have Hg:w.heap.size<=g:=by omega
  clear hg
  refine(Qie n _).mono ?_
  rintro e w1 ⟨he1,h1⟩
  rw[<-Hh.out,b1] at he1
  subst he1
  have hZ:=K0.out.ext h1;have he:=He.out.next h1
  clear h1 K0 He
  have hgl:=hZ.lt
  go_upto_region 2 with fail
  replace hZ:=hZ.alloc (.cells #[.int .i64 h.number,.int .i64 h.size,.string h.root,.int .i64 h.taken,.string h.takenRoot] 33)
  have hD:=Blk.new w1 33 #[.int .i64 h.number,.int .i64 h.size,.string h.root,.int .i64 h.taken,.string h.takenRoot]
  replace he:=he.new (.cells #[.int .i64 h.number,.int .i64 h.size,.string h.root,.int .i64 h.taken,.string h.takenRoot] 33)
  obtain⟨g2,hg2⟩:∃ g2,g2=w1.heap.size:=⟨_,rfl⟩
  rw[<-hg2] at hD hgl
  rw[<-hg2]
  clear hg2
  generalize w1.alloc (.cells #[.int .i64 h.number,.int .i64 h.size,.string h.root,.int .i64 h.taken,.string h.takenRoot] 33)=w2 at *
  obtain⟨zc,zf⟩:=hZ.rules
  obtain⟨dc,df⟩:=hD.rules
  go_wp2_with fail
 · have e0:h=newH false n:=by rw[Hh.out,b1]
   have hz:=hZ.put 0 [.int .i64 0,.slice none 0 0,.int .i64 0,.slice none 0 0,.int .i64 0,.int .i64 0,.string ⟨#[]⟩,.int .i64 0,.string ⟨#[]⟩] #[.int .i64 0,.slice none 0 0,.int .i64 0,.slice none 0 0,.int .i64 0,.int .i64 0,.string ⟨#[]⟩,.int .i64 0,.string ⟨#[]⟩] (by simp) rfl
   have hx:=Qaa (W:=w) (g:=g) Hg [.int .i64 0,.slice none 0 0,.int .i64 0,.slice none 0 0,.int .i64 0,.int .i64 0,.string ⟨#[]⟩,.int .i64 0,.string ⟨#[]⟩] 0 _ he
   refine Qat rfl rfl hz Tryz.underlying35 rfl (by kernel_rfl) rfl ⟨?_,hx⟩
   rw[e0];rfl
 · have hz:=hZ.put 0 [.int .i64 0,.slice none 0 0,.int .i64 0,.slice none 0 0,.int .i64 h.number,.int .i64 h.size,.string h.root,.int .i64 h.taken,.string h.takenRoot] #[.int .i64 0,.slice none 0 0,.int .i64 0,.slice none 0 0,.int .i64 h.number,.int .i64 h.size,.string h.root,.int .i64 h.taken,.string h.takenRoot] (by simp) rfl
   have hx:=Qaa (W:=w) (g:=g) Hg [.int .i64 0,.slice none 0 0,.int .i64 0,.slice none 0 0,.int .i64 h.number,.int .i64 h.size,.string h.root,.int .i64 h.taken,.string h.takenRoot] 0 _ he
   exact Qat rfl rfl hz Tryz.underlying35 rfl (by kernel_rfl) rfl ⟨rfl,hx⟩
theorem Qmt(n:Int)(w:World):Calls Tryz.prog 159 #[.int .i64 n] w fun e w'=>e=.returned (.tuple #[.agg (Qhu (newH (inR n 1 32) n)).toArray,.bool (inR n 1 32)])/\Ext w w':=by
 have K0:=hU (Blk.new w 35 #[.int .i64 0,.slice none 0 0,.int .i64 0,.slice none 0 0,.int .i64 0,.int .i64 0,.string ⟨#[]⟩,.int .i64 0,.string ⟨#[]⟩])
 have He:=hU (Ext.new (Below.refl w.heap.size w) (.cells #[.int .i64 0,.slice none 0 0,.int .i64 0,.slice none 0 0,.int .i64 0,.int .i64 0,.string ⟨#[]⟩,.int .i64 0,.string ⟨#[]⟩] 35))
 cases b1:inR n 1 32
 all_goals
  obtain⟨h,hh⟩:∃ h,h=newH (inR n 1 32) n:=⟨_,rfl⟩
  have Hh:=hU hh
  rw[b1] at hh
  rw[<-hh]
  clear hh
  go_enter Tryz.func159,Tryz.ntmps159
  go_wp2_with fail
  obtain⟨g,hg⟩:∃ g,g=w.heap.size:=⟨_,rfl⟩
  rw[<-hg] at K0
  rw[<-hg]
  have Hg:w.heap.size<=g:=by omega
  clear hg
  refine(Qmu n _).mono ?_
  rintro e w1 ⟨he1,h1⟩
  rw[<-Hh.out,b1] at he1
  subst he1
  have hZ:=K0.out.ext h1;have he:=He.out.next h1
  clear h1 K0 He
  have hgl:=hZ.lt
  go_upto_region 2 with fail
  replace hZ:=hZ.alloc (.cells #[.int .i64 h.number,.int .i64 h.size,.string h.root,.int .i64 h.taken,.string h.takenRoot] 33)
  have hD:=Blk.new w1 33 #[.int .i64 h.number,.int .i64 h.size,.string h.root,.int .i64 h.taken,.string h.takenRoot]
  replace he:=he.new (.cells #[.int .i64 h.number,.int .i64 h.size,.string h.root,.int .i64 h.taken,.string h.takenRoot] 33)
  obtain⟨g2,hg2⟩:∃ g2,g2=w1.heap.size:=⟨_,rfl⟩
  rw[<-hg2] at hD hgl
  rw[<-hg2]
  clear hg2
  generalize w1.alloc (.cells #[.int .i64 h.number,.int .i64 h.size,.string h.root,.int .i64 h.taken,.string h.takenRoot] 33)=w2 at *
  obtain⟨zc,zf⟩:=hZ.rules
  obtain⟨dc,df⟩:=hD.rules
  go_wp2_with fail
 · have e0:h=newH false n:=by rw[Hh.out,b1]
   have hz:=hZ.put 0 [.int .i64 0,.slice none 0 0,.int .i64 0,.slice none 0 0,.int .i64 0,.int .i64 0,.string ⟨#[]⟩,.int .i64 0,.string ⟨#[]⟩] #[.int .i64 0,.slice none 0 0,.int .i64 0,.slice none 0 0,.int .i64 0,.int .i64 0,.string ⟨#[]⟩,.int .i64 0,.string ⟨#[]⟩] (by simp) rfl
   have hx:=Qaa (W:=w) (g:=g) Hg [.int .i64 0,.slice none 0 0,.int .i64 0,.slice none 0 0,.int .i64 0,.int .i64 0,.string ⟨#[]⟩,.int .i64 0,.string ⟨#[]⟩] 0 _ he
   refine Qat rfl rfl hz Tryz.underlying35 rfl (by kernel_rfl) rfl ⟨?_,hx⟩
   rw[e0];rfl
 · have hz:=hZ.put 0 [.int .i64 0,.slice none 0 0,.int .i64 0,.slice none 0 0,.int .i64 h.number,.int .i64 h.size,.string h.root,.int .i64 h.taken,.string h.takenRoot] #[.int .i64 0,.slice none 0 0,.int .i64 0,.slice none 0 0,.int .i64 h.number,.int .i64 h.size,.string h.root,.int .i64 h.taken,.string h.takenRoot] (by simp) rfl
   have hx:=Qaa (W:=w) (g:=g) Hg [.int .i64 0,.slice none 0 0,.int .i64 0,.slice none 0 0,.int .i64 h.number,.int .i64 h.size,.string h.root,.int .i64 h.taken,.string h.takenRoot] 0 _ he
   exact Qat rfl rfl hz Tryz.underlying35 rfl (by kernel_rfl) rfl ⟨rfl,hx⟩
theorem Qli(n:Int)(w:World)(b1:inR n 1 32=true):Calls Tryz.prog 94 #[.int .i64 n] w fun e w'=>∃ q,e=.returned (.tuple #[.agg (brokNC n (.slice (some ⟨q,0,none⟩) 1 1) (newH true n)).toArray,.bool true])/\w.heap.size<=q/\Blk w' q 33 (newH true n).cells.toArray/\Ext w w':=by
 have K0:=hU (Blk.new w 37 #[.int .i64 0,.slice none 0 0,.slice none 0 0,.slice none 0 0,.int .i64 0,.slice none 0 0,.int .i64 0,.slice none 0 0,.int .i64 0,.int .i64 0,.string ⟨#[]⟩,.int .i64 0,.string ⟨#[]⟩])
 have He:=hU (Ext.new (Below.refl w.heap.size w) (.cells #[.int .i64 0,.slice none 0 0,.slice none 0 0,.slice none 0 0,.int .i64 0,.slice none 0 0,.int .i64 0,.slice none 0 0,.int .i64 0,.int .i64 0,.string ⟨#[]⟩,.int .i64 0,.string ⟨#[]⟩] 37))
 obtain⟨h,hh⟩:∃ h,h=newH true n:=⟨_,rfl⟩
 have Hh:=hU hh
 rw[<-hh]
 clear hh
 go_enter Tryz.func94,Tryz.ntmps94
 go_wp2_with fail
 obtain⟨g,hg⟩:∃ g,g=w.heap.size:=⟨_,rfl⟩
 have K1:=hU (show Blk _ g _ _ by rw[hg];exact K0.out)
 rw[<-hg]
 have Hg:w.heap.size<=g:=by omega
 clear hg K0
 refine(Qmt n _).mono ?_
 rintro e w1 ⟨he1,h1⟩
 rw[b1,<-Hh.out] at he1
 subst he1
 have hZ:=K1.out.ext h1;have he:=He.out.next h1
 clear h1 K1 He
 simp only[Qhu]
 have hgl:=hZ.lt
 go_upto_region 2 with fail
 replace hZ:=hZ.alloc (.cells #[.int .i64 0,.slice none 0 0,.int .i64 0,.slice none 0 0,.int .i64 h.number,.int .i64 h.size,.string h.root,.int .i64 h.taken,.string h.takenRoot] 35)
 have hD:=Blk.new w1 35 #[.int .i64 0,.slice none 0 0,.int .i64 0,.slice none 0 0,.int .i64 h.number,.int .i64 h.size,.string h.root,.int .i64 h.taken,.string h.takenRoot]
 replace he:=he.new (.cells #[.int .i64 0,.slice none 0 0,.int .i64 0,.slice none 0 0,.int .i64 h.number,.int .i64 h.size,.string h.root,.int .i64 h.taken,.string h.takenRoot] 35)
 obtain⟨g2,hg2⟩:∃ g2,g2=w1.heap.size:=⟨_,rfl⟩
 rw[<-hg2] at hD hgl
 rw[<-hg2]
 clear hg2
 generalize w1.alloc (.cells #[.int .i64 0,.slice none 0 0,.int .i64 0,.slice none 0 0,.int .i64 h.number,.int .i64 h.size,.string h.root,.int .i64 h.taken,.string h.takenRoot] 35)=w2 at *
 obtain⟨zc,zf⟩:=hZ.rules
 obtain⟨dc,df⟩:=hD.rules
 have hw2:=he.size
 have K3:=hU (Blk.new w2 33 #[.int .i64 h.number,.int .i64 h.size,.string h.root,.int .i64 h.taken,.string h.takenRoot])
 have hZ3:=hZ.alloc (.cells #[.int .i64 h.number,.int .i64 h.size,.string h.root,.int .i64 h.taken,.string h.takenRoot] 33)
 have he3:=he.new (.cells #[.int .i64 h.number,.int .i64 h.size,.string h.root,.int .i64 h.taken,.string h.takenRoot] 33)
 have hlt:=hZ.lt
 have hlt2:=hD.lt
 obtain⟨w4,hw4,hz,hx,ho⟩:∃ w4,w4=(w2.alloc (.cells #[.int .i64 h.number,.int .i64 h.size,.string h.root,.int .i64 h.taken,.string h.takenRoot] 33)).setCells g 0 [.int .i64 n,.slice none 0 0,.slice none 0 0,.slice (some ⟨w2.heap.size,0,none⟩) 1 1,.int .i64 0,.slice none 0 0,.int .i64 0,.slice none 0 0,.int .i64 h.number,.int .i64 h.size,.string h.root,.int .i64 h.taken,.string h.takenRoot]/\Blk w4 g 37 #[.int .i64 n,.slice none 0 0,.slice none 0 0,.slice (some ⟨w2.heap.size,0,none⟩) 1 1,.int .i64 0,.slice none 0 0,.int .i64 0,.slice none 0 0,.int .i64 h.number,.int .i64 h.size,.string h.root,.int .i64 h.taken,.string h.takenRoot]/\Ext w w4/\Blk w4 w2.heap.size 33 h.cells.toArray:=
  ⟨_,rfl,hZ3.put 0 [.int .i64 n,.slice none 0 0,.slice none 0 0,.slice (some ⟨w2.heap.size,0,none⟩) 1 1,.int .i64 0,.slice none 0 0,.int .i64 0,.slice none 0 0,.int .i64 h.number,.int .i64 h.size,.string h.root,.int .i64 h.taken,.string h.takenRoot] #[.int .i64 n,.slice none 0 0,.slice none 0 0,.slice (some ⟨w2.heap.size,0,none⟩) 1 1,.int .i64 0,.slice none 0 0,.int .i64 0,.slice none 0 0,.int .i64 h.number,.int .i64 h.size,.string h.root,.int .i64 h.taken,.string h.takenRoot] (by simp) rfl,Qaa (W:=w) (g:=g) Hg [.int .i64 n,.slice none 0 0,.slice none 0 0,.slice (some ⟨w2.heap.size,0,none⟩) 1 1,.int .i64 0,.slice none 0 0,.int .i64 0,.slice none 0 0,.int .i64 h.number,.int .i64 h.size,.string h.root,.int .i64 h.taken,.string h.takenRoot] 0 _ he3,K3.out.farCells (g':=g) (by omega) [.int .i64 n,.slice none 0 0,.slice none 0 0,.slice (some ⟨w2.heap.size,0,none⟩) 1 1,.int .i64 0,.slice none 0 0,.int .i64 0,.slice none 0 0,.int .i64 h.number,.int .i64 h.size,.string h.root,.int .i64 h.taken,.string h.takenRoot] 0⟩
 have HW:=hU hw4
 have T3:=hU (hZ3.there 0 13 (by simp))
 have Z4:=hU hz;have X4:=hU hx;have O4:=hU ho
 clear hw4 hz hx ho hZ3 he3 K3 he hZ hD
 have R2:Hid (w2.rangeAt g2 0 [.int .i64 0,.slice none 0 0,.int .i64 0,.slice none 0 0,.int .i64 h.number,.int .i64 h.size,.string h.root,.int .i64 h.taken,.string h.takenRoot]):=hU (fun j v hv=>by rw[Nat.zero_add,dc];simpa using hv)
 go_wp2_with (first|(refine Qac rfl 37 _ _ rfl rfl g 0 [.int .i64 n,.slice none 0 0,.slice none 0 0,.slice (some ⟨w2.heap.size,0,none⟩) 1 1,.int .i64 0,.slice none 0 0,.int .i64 0,.slice none 0 0,.int .i64 h.number,.int .i64 h.size,.string h.root,.int .i64 h.taken,.string h.takenRoot] rfl rfl T3.out (by kernel_rfl) (by rfl) ?_;rw[<-HW.out]))
 exact Qat rfl rfl Z4.out Tryz.underlying37 rfl (by kernel_rfl) rfl ⟨_,rfl,hw2,O4.out,X4.out⟩
end Go.Proofs.YtbnkjgcpjeedfaaGreat
