/-
  Reader; Texts; Words: No condition.
-/
import Derived.Test.YtbnkjgcpjeedfaaGreatMem
import Derived.Test.YtbnkjgcpjeedfaaGreatRowTx
import Derived.IntWalk
import Derived.Laws.IdiomStrings
import Derived.Laws.BitsAllLaws
import Derived.Laws.BitsLemmas
namespace Go.Proofs.YtbnkjgcpjeedfaaGreat
set_option maxHeartbeats 1000000
set_option maxRecDepth 100000
set_option linter.unusedSimpArgs false
open Go.RowKit
set_option linter.unusedVariables false
theorem Qm3{a b:ByteArray}(h:a=b):Ending.returned (.string a)=.returned (.string b):=by rw[h]
abbrev Qaz (g:Nat) (W w:World):Prop:=W.grownBy w (some g)
theorem Qaz.refl(g:Nat)(w:World):Qaz g w w:=⟨rfl,rfl,rfl,Nat.le_refl _,fun _ _ _=>rfl⟩
theorem Qaz.next{g:Nat}{a b c:World}(h:Qaz g a b)(k:Qaz g b c):Qaz g a c:=
 ⟨k.os.trans h.os,k.tape.trans h.tape,k.output.trans h.output,Nat.le_trans h.size k.size,fun i hi hne=>(k.block i (Nat.lt_of_lt_of_le hi h.size) hne).trans (h.block i hi hne)⟩
theorem Qaz.of_ext{g:Nat}{a b:World}(h:Ext a b):Qaz g a b:=⟨h.os,h.tape,h.output,h.size,fun i hi _=>h.block i hi⟩
theorem Qaz.drewN{g:Nat}{a b:World}(h:Qaz g a b)(n:Nat):Qaz g a (b.drewN n):=⟨h.os,h.tape,h.output,h.size,h.block⟩
theorem Qaz.set_{g:Nat}{a w:World}(h:Qaz g a w)(i:Nat)(u:Value):Qaz g a (w.setCell ⟨g,i,none⟩ u):=
 ⟨h.os,h.tape,h.output,by simpa [World.setCell] using h.size,fun k hk hne=>(Below.heap_setCell w ⟨g,i,none⟩ u k (by rintro rfl;exact hne rfl)).trans (h.block k hk hne)⟩
theorem Ext.nextBut{W w1 w2:World}{g:Nat}(h:Ext W w1)(hg:W.heap.size<=g)(k:Qaz g w1 w2):Ext W w2:=
 ⟨k.os.trans h.os,k.tape.trans h.tape,k.output.trans h.output,Nat.le_trans h.size k.size,fun i hi=>(k.block i (Nat.lt_of_lt_of_le hi h.size) (by simp;omega)).trans (h.block i hi)⟩
theorem Blk.extBut{w w':World}{g g':Nat}{t:TypeId}{cs:Array Value}(h:Blk w g' t cs)(k:Qaz g w w')(hne:g'≠g):Blk w' g' t cs:=(k.block g' h.lt (by simp;omega)).trans h
structure Rd where
 pos:Nat
 bad:Bool
def Qe2 (T:ByteArray) (r:Rd) (n:Nat):Bool:=r.bad||decide ((T.size:Int)-(r.pos:Int)<(n:Int))
def Qaq (T:ByteArray) (r:Rd) (n:Nat):ByteArray:=if Qe2 T r n then⟨#[]⟩ else T.extract r.pos (r.pos+n)
def Qb3 (T:ByteArray) (r:Rd) (n:Nat):Rd:=if Qe2 T r n then⟨r.pos,true⟩ else⟨r.pos+n,false⟩
def Qdd (T:ByteArray) (r:Rd):Array Value:=#[.string T,.int .i64 (r.pos:Int),.bool r.bad]
theorem Qfo(g:Nat)(T:ByteArray)(r:Rd)(n:Nat)(w:World)(hB:Blk w g 246 (Qdd T r))(hp:r.pos<=T.size)(hT:T.size<=1099511627776)(hn:n<=1099511627776) :
 Calls Tryz.prog 186 #[.pointer (some ⟨g,0,none⟩),.int .i64 (n:Int)] w fun e w'=>e=.returned (.string (Qaq T r n))/\Blk w' g 246 (Qdd T (Qb3 T r n))/\Qaz g w w':=by
 obtain⟨p,b⟩:=r
 simp only[Qdd] at hB
 obtain⟨hc,hf⟩:=hB.rules
 have c0:w.cell? ⟨g,0,none⟩=some (.string T):=hc 0
 have c1:w.cell? ⟨g,1,none⟩=some (.int .i64 (p:Int)):=hc 1
 have c2:w.cell? ⟨g,2,none⟩=some (.bool b):=hc 2
 clear hc
 simp only at hp
 cases b
 · by_cases h:(T.size:Int)-(p:Int)<(n:Int)
   · have hf1:Qe2 T ⟨p,false⟩ n=true:=by simp[Qe2];omega
     have Ht:=hU (show Qaq T ⟨p,false⟩ n=⟨#[]⟩ by simp[Qaq,hf1])
     have Hn:=hU (show Qb3 T ⟨p,false⟩ n=⟨p,true⟩ by simp[Qb3,hf1])
     clear hf1
     go_enter Tryz.func186,Tryz.ntmps186
     go_wp2_with fail
     go_quiet (fail)
     go_wp2_with fail
     go_ret
     exact⟨Qm3 Ht.out.symm,by rw[Hn.out];exact(hB.drewN nq).set_ 2 (.bool true),((Qaz.refl g w).drewN nq).set_ 2 _⟩
   · have hf1:Qe2 T ⟨p,false⟩ n=false:=by simp[Qe2];omega
     have Ht:=hU (show Qaq T ⟨p,false⟩ n=T.extract p (p+n) by simp[Qaq,hf1])
     have Hn:=hU (show Qb3 T ⟨p,false⟩ n=⟨p+n,false⟩ by simp[Qb3,hf1])
     have hd:decide ((T.size:Int)-(p:Int)<(n:Int))=false:=by rw[decide_eq_false_iff_not];exact h
     clear hf1
     go_enter Tryz.func186,Tryz.ntmps186
     go_wp2_with fail
     go_quiet (fail)
     go_wp2_with fail
     have B1:=(hB.drewN nq).set_ 1 (.int .i64 ((p+n:Nat):Int))
     have x1:=((Qaz.refl g w).drewN nq).set_ 1 (.int .i64 ((p+n:Nat):Int))
     rw[show((p+n:Nat):Int)=(p:Int)+(n:Int) from by omega] at B1 x1
     clear c0 c1 c2 hB
     generalize (w.drewN nq).setCell ⟨g,1,none⟩ (.int .i64 ((p:Int)+(n:Int)))=w2 at *
     obtain⟨hc,hf⟩:=B1.rules
     have c0:w2.cell? ⟨g,0,none⟩=some (.string T):=hc 0
     have c1:w2.cell? ⟨g,1,none⟩=some (.int .i64 ((p:Int)+(n:Int))):=hc 1
     clear hc
     have hw:IntKind.i64.wrap (p:Int)=(p:Int):=IntWalk.i64_in _ (by omega)
     have hk1:(p:Int)+(n:Int)<=(T.size:Int):=by omega
     have hk2:p+n<=T.size:=by omega
     go_quiet (fail)
     go_wp2_with fail
     go_ret
     exact⟨Qm3 Ht.out.symm,by rw[Hn.out];exact B1.drewN _,x1.drewN _⟩
 · have hf1:Qe2 T ⟨p,true⟩ n=true:=by simp[Qe2]
   have Ht:=hU (show Qaq T ⟨p,true⟩ n=⟨#[]⟩ by simp[Qaq,hf1])
   have Hn:=hU (show Qb3 T ⟨p,true⟩ n=⟨p,true⟩ by simp[Qb3,hf1])
   clear hf1
   go_enter Tryz.func186,Tryz.ntmps186
   go_wp2_with fail
   go_quiet (fail)
   go_wp2_with fail
   go_ret
   exact⟨Qm3 Ht.out.symm,by rw[Hn.out];exact(hB.drewN nq).set_ 2 (.bool true),((Qaz.refl g w).drewN nq).set_ 2 _⟩
def Qb0 (b:ByteArray):Nat:=b.data.toList.foldl (fun a c=>256*a+c.toNat) 0
theorem Quo:∀(l:List UInt8) (a:Nat),l.foldl (fun a c=>256*a+c.toNat) a<(a+1)*256 ^ l.length
 | [],a=>by simp
 | c :: l,a=>by
   have h:=Quo l (256*a+c.toNat)
   have hc:c.toNat<256:=c.toNat_lt
   have h2:(256*a+c.toNat+1)*256 ^ l.length<=((a+1)*256)*256 ^ l.length:=Nat.mul_le_mul_right _ (by omega)
   rw[List.length_cons,Nat.pow_succ]
   simp only[List.foldl_cons]
   calc _<_:=h
    _<=_:=h2
    _=_:=by rw[Nat.mul_assoc,Nat.mul_comm 256]
def Qfu (b:ByteArray) (k:Nat) (v:Nat):Prop:=v=(b.data.toList.take k).foldl (fun a c=>256*a+c.toNat) 0
theorem Qfu.start(b:ByteArray):Qfu b 0 0:=by simp[Qfu]
theorem Qfu.step{b:ByteArray}{k v:Nat}(h:Qfu b k v)(hk:k<b.size):Qfu b (k+1) (256*v+b[k].toNat):=by
 unfold Qfu at *
 rw[List.take_succ_eq_append_getElem (by simpa using hk),List.foldl_append,<-h]
 rfl
theorem Qfu.done{b:ByteArray}{k v:Nat}(h:Qfu b k v)(hk:b.size<=k):v=Qb0 b:=by
 unfold Qfu at h
 rw[List.take_of_length_le (by simpa using hk)] at h
 exact h
theorem Qfu.lt{b:ByteArray}{k v:Nat}(h:Qfu b k v)(hk:k<=4):v<4294967296:=by
 rw[h]
 have:=Quo (b.data.toList.take k) 0
 have h2:(b.data.toList.take k).length<=4:=by rw[List.length_take];omega
 have h3:256 ^ (b.data.toList.take k).length<=256 ^ 4:=Nat.pow_le_pow_right (by decide) h2
 simp only[Nat.zero_add,Nat.one_mul] at this
 omega
theorem Qe1(T:ByteArray)(r:Rd)(n:Nat):(Qaq T r n).size<=n:=by
 unfold Qaq
 split
 · exact Nat.zero_le _
 · rw[ByteArray.size_extract];omega
theorem Qro(a:Nat)(ha:a<9223372036854775808):(BitVec.ofInt 64 (a:Int)).toNat=a:=by
 rw[BitVec.ofInt_natCast,BitVec.toNat_ofNat];exact Nat.mod_eq_of_lt (by omega)
theorem Qvg(a b:Nat)(ha:a<9223372036854775808)(hb:b<9223372036854775808):bits .or .i64 (a:Int) (b:Int)=((a ||| b:Nat):Int):=by
 have hx:a ||| b<2 ^ 63:=Nat.or_lt_two_pow (by omega) (by omega)
 show IntKind.i64.wrap ((BitVec.ofInt 64 (a:Int) ||| BitVec.ofInt 64 (b:Int)).toNat:Int)=_
 rw[BitVec.toNat_or,Qro a ha,Qro b hb,IntKind.wrap_i64]
 omega
theorem or_byte(q c:Nat)(hq:q<4294967296)(hc:c<256):bits .or .i64 ((q:Int)*256) (c:Int)=((256*q+c:Nat):Int):=by
 have h:256*q+c=256*q ||| c:=Nat.two_pow_add_eq_or_of_lt (i:=8) (by omega) q
 rw[h,<-Qvg _ _ (by omega) (by omega),show((256*q:Nat):Int)=(q:Int)*256 by omega]
theorem Qp0{P:Program}{src dst e:TypeId}(s:ByteArray)(hs:P.underlying src=some .string)(hd:P.underlying dst=some (.slice e))(he:P.underlying e=some (.int .u8))(w:World) :
 ∃(cap:Nat) (w1:World),(convert src dst (.string s)).run P w=.ok (.slice (some ⟨w.heap.size,0,none⟩) s.size cap) w1/\Ext w w1/\∀ j (hj:j<s.size),w1.cell? ⟨w.heap.size,j,none⟩=some (.int .u8 (s[j].toNat:Int)):=by
 refine⟨_,_,run_bytes_of_string w src dst e s hs hd he,Below.alloc (Below.refl _ _).drew (Nat.le_refl _) _,fun j hj=>?_⟩
 have h:=World.cell?_alloc_mark w.drew (bytesRow s (grownCap w s.size 0 e)) e ((bytesRow s (grownCap w s.size 0 e)).size,(bytesRow s (grownCap w s.size 0 e)).size+1) j
 exact h.trans (bytesRow_at s _ j hj)
theorem Qeg(g:Nat)(T:ByteArray)(r:Rd)(n:Nat)(w:World)(hB:Blk w g 246 (Qdd T r))(hp:r.pos<=T.size)(hT:T.size<=1099511627776)(hn:n<=4) :
 Calls Tryz.prog 185 #[.pointer (some ⟨g,0,none⟩),.int .i64 (n:Int)] w fun e w'=>e=.returned (.int .i64 (Qb0 (Qaq T r n):Int))/\Blk w' g 246 (Qdd T (Qb3 T r n))/\Qaz g w w':=by
 have hsz:=Qe1 T r n
 go_enter Tryz.func185,Tryz.ntmps185
 go_wp2_with fail
 refine(Qfo g T r n w hB hp hT (by omega)).mono ?_
 rintro e w1 ⟨rfl,hB1,hx⟩
 obtain⟨b,hb⟩:∃ b,b=Qaq T r n:=⟨_,rfl⟩
 rw[<-hb] at hsz
 rw[<-hb]
 have Hb:=hU hb
 clear hb hB
 have Hi:=Qfu.start b
 obtain⟨cap,w2,hrun,he2,hcell⟩:=Qp0 (P:=Tryz.prog) b Tryz.underlying9 Tryz.underlying22 Tryz.underlying5 w1
 have hB2:=hB1.ext he2
 have hx2:=hx.next (Qaz.of_ext he2)
 have Hc:=hU hcell
 clear hcell hB1 hx he2
 go_wp2_with fail
 go_loop [5,13] (fun v i=>∃(k q:Nat),k<=b.size/\i=.int .i64 k/\v=.int .i64 q/\q<4294967296/\Qfu b k q) (fun _ i=>b.size-(intOf i).toNat)
 case atStart=>exact⟨0,0,Nat.zero_le _,rfl,rfl,by omega,Hi⟩
 case round=>
  obtain⟨k,q,hk,rfl,rfl,hq,hi⟩:=hrel
  clear Hi
  by_cases hlt:k<b.size
  · have E:=hi.step hlt
    have h2:=E.lt (by omega)
    have hE:=hU E
    clear hi E
    have hcc:(b[k].toNat:Int)<=255:=by have:=b[k].toNat_lt;omega
    have hck:=Hc.out k hlt
    go_wp2_with fail
    go_round
    case rel=>exact⟨k+1,256*q+b[k].toNat,by omega,by go_num,by rw[or_byte _ _ hq (by omega)],h2,hE.out⟩
    case measure=>simp[intOf];omega
  · have E:=hU (hi.done (by omega))
    clear hi
    go_wp2_with fail
    go_ret
    exact⟨Qez (by rw[E.out,Hb.out]),hB2,hx2⟩
theorem Qb8(T:ByteArray)(r:Rd)(n:Nat)(h:r.pos<=T.size):(Qb3 T r n).pos<=T.size:=by
 unfold Qb3
 split
 · exact h
 · rename_i hf
   simp only[Qe2,Bool.or_eq_true,decide_eq_true_eq,not_or] at hf
   show r.pos+n<=T.size
   omega
theorem Qk9(b:ByteArray)(h:b.size<=4):Qb0 b<4294967296:=by
 have:=(show Qfu b b.size (Qb0 b) by unfold Qfu Qb0;rw[List.take_of_length_le (by simp)]).lt h
 exact this
def Qbm (T:ByteArray) (r:Rd) (n:Nat):ByteArray:=Qaq T (Qb3 T r n) (Qb0 (Qaq T r n))
def Qc3 (T:ByteArray) (r:Rd) (n:Nat):Rd:=Qb3 T (Qb3 T r n) (Qb0 (Qaq T r n))
theorem Qh1(g:Nat)(T:ByteArray)(r:Rd)(n:Nat)(w:World)(hB:Blk w g 246 (Qdd T r))(hp:r.pos<=T.size)(hT:T.size<=1099511627776)(hn:n<=4) :
 Calls Tryz.prog 187 #[.pointer (some ⟨g,0,none⟩),.int .i64 (n:Int)] w fun e w'=>e=.returned (.string (Qbm T r n))/\Blk w' g 246 (Qdd T (Qc3 T r n))/\Qaz g w w':=by
 have hq:=Qk9 (Qaq T r n) (Nat.le_trans (Qe1 T r n) hn)
 go_enter Tryz.func187,Tryz.ntmps187
 go_wp2_with fail
 refine(Qeg g T r n w hB hp hT hn).mono ?_
 rintro e w1 ⟨rfl,hB1,hx⟩
 go_wp2_with fail
 refine(Qfo g T (Qb3 T r n) (Qb0 (Qaq T r n)) w1 hB1 (Qb8 T r n hp) hT (by omega)).mono ?_
 rintro e w2 ⟨rfl,hB2,hx2⟩
 go_wp2_with fail
 go_ret
 exact⟨rfl,hB2,hx.next hx2⟩
def Qfh (T:ByteArray) (r:Rd):Bool:=!r.bad&&decide (r.pos=T.size)
theorem Qhr(g:Nat)(T:ByteArray)(r:Rd)(w:World)(hB:Blk w g 246 (Qdd T r)) :
 Calls Tryz.prog 188 #[.pointer (some ⟨g,0,none⟩)] w fun e w'=>e=.returned (.bool (Qfh T r))/\∃ m,w'=w.drewN m:=by
 obtain⟨p,b⟩:=r
 simp only[Qdd] at hB
 obtain⟨hc,hf⟩:=hB.rules
 have c0:w.cell? ⟨g,0,none⟩=some (.string T):=hc 0
 have c1:w.cell? ⟨g,1,none⟩=some (.int .i64 (p:Int)):=hc 1
 have c2:w.cell? ⟨g,2,none⟩=some (.bool b):=hc 2
 clear hc
 cases b
 · have e1:Qfh T ⟨p,false⟩=((p:Int)==(T.size:Int)):=by simp only[Qfh];rw[Bool.eq_iff_iff];simp;omega
   have E1:=hU e1;clear e1
   go_enter Tryz.func188,Tryz.ntmps188
   go_wp2_with fail
   go_quiet (fail)
   go_wp2_with fail
   go_ret
   exact⟨Qam E1.out.symm,nq,rfl⟩
 · have E1:=hU (show Qfh T ⟨p,true⟩=false by simp[Qfh])
   go_enter Tryz.func188,Tryz.ntmps188
   go_wp2_with fail
   go_quiet (fail)
   go_wp2_with fail
   go_ret
   exact⟨Qam E1.out.symm,nq,rfl⟩
def Qc8 (ns:List Int):ByteArray:=⟨(ns.map fun x=>UInt8.ofNat x.toNat).toArray⟩
theorem Qg9(ns:List Int)(h:∀ x∈ns,0<=x/\x<256)(w:World) :
 (convert 22 9 (.slice (some ⟨w.heap.size,0,none⟩) ns.length ns.length)).run Tryz.prog (w.alloc (.cells (ns.map (Value.int .u8)).toArray 5)) =
  .ok (.string (Qc8 ns)) (w.alloc (.cells (ns.map (Value.int .u8)).toArray 5)):=by
 have hb:=Blk.new w 5 (ns.map (Value.int .u8)).toArray
 have h0:=run_convert_bytes_back (P:=Tryz.prog) (w.alloc (.cells (ns.map (Value.int .u8)).toArray 5)) 22 9 5 ⟨w.heap.size,0,none⟩ ns.length (ns.map fun x=>UInt8.ofNat x.toNat)
  Tryz.underlying22 Tryz.underlying5 Tryz.underlying9 (fun j hj=>by
   rw[Qhw,Nat.zero_add,hb.cell]
   have hj':j<ns.length:=by simpa using hj
   obtain⟨h1,h2⟩:=h ns[j] (List.getElem_mem hj')
   simp only[List.getElem?_toArray,List.getElem?_map,List.getElem?_eq_getElem hj',Option.map_some,List.getElem_map,Option.some.injEq,Value.int.injEq,true_and]
   rw[UInt8.toNat_ofNat_of_lt' (by show ns[j].toNat<256;omega)]
   omega)
 simp only[List.length_map] at h0
 exact h0
def octB (n:Int):ByteArray:=Qc8 [n % 256]
theorem Qm8(n:Int)(w:World):Calls Tryz.prog 204 #[.int .i64 n] w fun e w'=>e=.returned (.string (octB n))/\Ext w w':=by
 have hconv:=Qg9 [n % 256] (by intro x hx;simp only[List.mem_singleton] at hx;subst hx;omega) w
 simp only[List.length_cons,List.length_nil,Nat.zero_add,List.map_cons,List.map_nil] at hconv
 go_enter Tryz.func204,Tryz.ntmps204
 go_wp2_with fail
 go_ret
 exact⟨rfl,by go_grown⟩
theorem Qm9(n:Int):(octB n).size=1:=rfl
theorem Qhi(n:Int)(w:World)(h0:0<=n)(h1:n<=65535):Calls Tryz.prog 132 #[.int .i64 n] w fun e w'=>e=.returned (.string (octB (n / 256)++octB n))/\Ext w w':=by
 go_enter Tryz.func132,Tryz.ntmps132
 go_wp2_with fail
 refine(Qm8 _ _).mono ?_
 rintro e w1 ⟨rfl,he⟩
 go_wp2_with fail
 refine(Qm8 _ _).mono ?_
 rintro e w2 ⟨rfl,h1⟩
 replace he:=he.next h1
 go_wp2_with fail
 go_ret
 exact⟨rfl,he⟩
theorem Qis(s:ByteArray)(w:World)(hs:s.size<=1099511627776):Calls Tryz.prog 131 #[.string s] w fun e w'=>e=.returned (.string (octB s.size++s))/\Ext w w':=by
 have hz:(octB (s.size:Int)).size<=1:=by rw[Qm9];exact Nat.le_refl _
 go_enter Tryz.func131,Tryz.ntmps131
 go_wp2_with fail
 refine(Qm8 _ _).mono ?_
 rintro e w1 ⟨rfl,he⟩
 go_wp2_with fail
 go_ret
 exact⟨rfl,he⟩
def lowB (n:Nat):Nat->ByteArray
 | 0=>⟨#[]⟩
 | i+1=>octB ((n / 256 ^ i:Nat):Int)++lowB n i
theorem Qby(n:Nat):∀ i,(lowB n i).size=i
 | 0=>rfl
 | i+1=>by rw[lowB,ByteArray.size_append,Qm9,Qby n i,Nat.add_comm]
theorem Qfy(n b:Nat)(w:World)(hn:n<=1099511627776)(hb:b<=16):Calls Tryz.prog 85 #[.int .i64 (n:Int),.int .i64 (b:Int)] w fun e w'=>e=.returned (.string (lowB n b))/\Ext w w':=by
 have Hs:=hU (Qby n)
 go_enter Tryz.func85,Tryz.ntmps85
 go_wp2_with fail
 go_loopw [0,5,6] (fun sn st i wr=>∃(k q:Nat) (t:ByteArray),k<=b/\i=.int .i64 k/\sn=.int .i64 q/\st=.string t/\q<=1099511627776/\t.size<=16/\Hid (q=n / 256 ^ k)/\Hid (t=lowB n k)/\Ext w wr) (fun _ _ i _=>b-(intOf i).toNat)
 case atStart=>exact⟨0,n,⟨#[]⟩,Nat.zero_le _,rfl,rfl,rfl,hn,by decide,hU (by simp),hU rfl,Below.refl _ _⟩
 case round=>
  obtain⟨k,q,t,hk,rfl,rfl,rfl,hq,ht,eq,et,he⟩:=hrel
  by_cases hlt:k<b
  · have hconv:=Qg9 [(q:Int) % 256] (by intro x hx;simp only[List.mem_singleton] at hx;subst hx;omega) wr
    simp only[List.length_cons,List.length_nil,Nat.zero_add,List.map_cons,List.map_nil] at hconv
    have ho:Qc8 [(q:Int) % 256]=octB q:=rfl
    rw[ho] at hconv
    clear ho
    have hz:(octB (q:Int)).size<=1:=by rw[Qm9];exact Nat.le_refl _
    have E1:=hU (show q / 256=n / 256 ^ (k+1) by rw[eq.out,Nat.div_div_eq_div_mul,<-Nat.pow_succ])
    have E2:=hU (show octB (q:Int)++t=lowB n (k+1) by rw[et.out,eq.out];rfl)
    have E3:(octB (q:Int)++t).size<=16:=by rw[E2.out,Hs.out];omega
    go_wp2_with fail
    go_roundw
    case rel=>exact⟨k+1,q / 256,_,by omega,by go_num,by go_num,rfl,by omega,E3,E1,E2,he.new _⟩
    case measure=>simp[intOf];omega
  · have E:Hid (t=lowB n b):=by
     obtain rfl:k=b:=by omega
     exact et
    go_wp2_with fail
    go_ret
    exact⟨Qm3 E.out,he⟩
theorem append_nil(a:ByteArray):a++⟨#[]⟩=a:=by
 apply ByteArray.ext
 rw[ByteArray.data_append]
 exact Array.append_empty
theorem Qkj(n:Nat):lowB n 1=octB n:=by
 show octB ((n / 256 ^ 0:Nat):Int)++⟨#[]⟩=_
 rw[append_nil];simp
theorem Qi2(n:Nat):lowB n 2=octB ((n:Int) / 256)++octB n:=by
 show octB ((n / 256 ^ 1:Nat):Int)++lowB n 1=_
 rw[Qkj];simp
theorem Qfd(n:Int)(b:Nat)(w:World)(h0:0<=n)(hn:n<=1099511627776)(hb:b<=16):Calls Tryz.prog 85 #[.int .i64 n,.int .i64 (b:Int)] w fun e w'=>e=.returned (.string (lowB n.toNat b))/\Ext w w':=by
 obtain⟨m,rfl⟩:=Int.eq_ofNat_of_zero_le h0
 rw[Int.toNat_natCast]
 exact Qfy m b w (by omega) hb
theorem Qid(s:ByteArray)(w:World)(hs:s.size<=1099511627776):Calls Tryz.prog 84 #[.string s] w fun e w'=>e=.returned (.string (lowB s.size 1++s))/\Ext w w':=by
 have hz:(lowB s.size 1).size<=1:=by rw[Qby];exact Nat.le_refl _
 go_enter Tryz.func84,Tryz.ntmps84
 go_wp2_with fail
 refine(Qfy s.size 1 _ hs (by decide)).mono ?_
 rintro e w1 ⟨rfl,he⟩
 go_wp2_with fail
 go_ret
 exact⟨rfl,he⟩
def Qr1 (k:Int):Int:=(k+1)*2654435761 % 4294967296
theorem Qsj(k:Int)(w:World)(h0:0<=k)(h1:k<=1000):Calls Tryz.prog 252 #[.int .i64 k] w fun e w'=>e=.returned (.int .u32 (Qr1 k))/\w=w':=by
 go_enter Tryz.func252,Tryz.ntmps252
 go_wp2_with fail
 go_ret
 exact⟨rfl,rfl⟩
theorem Qmb(k:Int)(w:World)(h0:0<=k)(h1:k<=1000):Calls Tryz.prog 259 #[.int .i64 k] w fun e w'=>e=.returned (.int .u32 (Qr1 k))/\w=w':=by
 go_enter Tryz.func259,Tryz.ntmps259
 go_wp2_with fail
 go_ret
 exact⟨rfl,rfl⟩
def byt (T:ByteArray) (i:Nat):Int:=if h:i<T.size then(T[i].toNat:Int) else 0
theorem Qr9{T:ByteArray}{i:Nat}(h:i<T.size):byt T i=(T[i].toNat:Int):=by simp[byt,h]
theorem Qn9(T:ByteArray)(i:Nat):0<=byt T i/\byt T i<256:=by
 unfold byt
 split
 · rename_i h
   have:=T[i].toNat_lt
   omega
 · omega
def Qf6 (T:ByteArray) (a:Nat):Int:=((byt T a*256+byt T (a+1))*256+byt T (a+2))*256+byt T (a+3)
theorem Qv8(T:ByteArray)(a:Nat):0<=Qf6 T a/\Qf6 T a<4294967296:=by
 have h0:=Qn9 T a
 have h1:=Qn9 T (a+1)
 have h2:=Qn9 T (a+2)
 have h3:=Qn9 T (a+3)
 unfold Qf6
 omega
theorem Qqb(x y m:Nat)(i:Nat)(hm:m=2 ^ i)(hx:x % m=0)(hy:y<m)(hs:x<4294967296)(hy2:y<4294967296):bits .or .u32 (x:Int) (y:Int)=((x+y:Nat):Int):=by
 rw[u32_or_nat _ _ hs hy2,nat_join i x y (by rw[<-hm];exact hx) (by rw[<-hm];exact hy)]
theorem or_four(a b c d:Nat)(ha:a<256)(hb:b<256)(hc:c<256)(hd:d<256) :
 bits .or .u32 (bits .or .u32 (bits .or .u32 ((a:Int) % 4294967296*16777216 % 4294967296) ((b:Int) % 4294967296*65536 % 4294967296)) ((c:Int) % 4294967296*256 % 4294967296)) ((d:Int) % 4294967296)=(((a:Int)*256+b)*256+c)*256+d:=by
 have e0:(a:Int) % 4294967296*16777216 % 4294967296=((a*16777216:Nat):Int):=by omega
 have e1:(b:Int) % 4294967296*65536 % 4294967296=((b*65536:Nat):Int):=by omega
 have e2:(c:Int) % 4294967296*256 % 4294967296=((c*256:Nat):Int):=by omega
 have e3:(d:Int) % 4294967296=(d:Int):=by omega
 rw[e0,e1,e2,e3,Qqb _ _ 16777216 24 (by decide) (by omega) (by omega) (by omega) (by omega),Qqb _ _ 65536 16 (by decide) (by omega) (by omega) (by omega) (by omega),
  Qqb _ _ 256 8 (by decide) (by omega) (by omega) (by omega) (by omega)]
 omega
theorem Qvv(T:ByteArray)(a:Nat)(w:World)(h:a+4<=T.size)(hT:T.size<=1099511627776):Calls Tryz.prog 216 #[.string T,.int .i64 (a:Int)] w fun e w'=>e=.returned (.int .u32 (Qf6 T a))/\∃ m,w'=w.drewN m:=by
 have a0:(a:Int)<(T.size:Int):=by omega
 have a1:(a:Int)+1<(T.size:Int):=by omega
 have a2:(a:Int)+2<(T.size:Int):=by omega
 have a3:(a:Int)+3<(T.size:Int):=by omega
 have b0:a<T.size:=by omega
 have b1:a+1<T.size:=by omega
 have b2:a+2<T.size:=by omega
 have b3:a+3<T.size:=by omega
 have E:Hid (Qf6 T a=bits .or .u32 (bits .or .u32 (bits .or .u32 ((T[a].toNat:Int) % 4294967296*16777216 % 4294967296) ((T[a+1].toNat:Int) % 4294967296*65536 % 4294967296)) ((T[a+2].toNat:Int) % 4294967296*256 % 4294967296)) ((T[a+3].toNat:Int) % 4294967296)):=
  hU (by rw[or_four _ _ _ _ T[a].toNat_lt T[a+1].toNat_lt T[a+2].toNat_lt T[a+3].toNat_lt,Qf6,Qr9 b0,Qr9 b1,Qr9 b2,Qr9 b3])
 have d0:decide ((a:Int)<0)=false:=by rw[decide_eq_false_iff_not];omega
 have d1:decide ((T.size:Int)-4<(a:Int))=false:=by rw[decide_eq_false_iff_not];omega
 have w1:IntKind.i64.wrap ((a:Int)+1)=(a:Int)+1:=IntWalk.i64_in _ (by omega)
 have w2:IntKind.i64.wrap ((a:Int)+2)=(a:Int)+2:=IntWalk.i64_in _ (by omega)
 have w3:IntKind.i64.wrap ((a:Int)+3)=(a:Int)+3:=IntWalk.i64_in _ (by omega)
 have n1:((a:Int)+1).toNat=a+1:=by omega
 have n2:((a:Int)+2).toNat=a+2:=by omega
 have n3:((a:Int)+3).toNat=a+3:=by omega
 have p1:(0:Int)<=(a:Int)+1:=by omega
 have p2:(0:Int)<=(a:Int)+2:=by omega
 have p3:(0:Int)<=(a:Int)+3:=by omega
 go_enter Tryz.func216,Tryz.ntmps216
 go_wp2_with fail
 go_quiet (fail)
 go_wp2_with fail
 go_ret
 exact⟨Qez E.out.symm,nq,rfl⟩
theorem Qto(T:ByteArray)(a:Int)(w:World)(h0:0<=a)(h:a+4<=T.size)(hT:T.size<=1099511627776):Calls Tryz.prog 216 #[.string T,.int .i64 a] w fun e w'=>e=.returned (.int .u32 (Qf6 T a.toNat))/\∃ m,w'=w.drewN m:=by
 obtain⟨k,rfl⟩:=Int.eq_ofNat_of_zero_le h0
 rw[Int.toNat_natCast]
 exact Qvv T k w (by omega) hT
def Qv7 (T:ByteArray) (a:Nat):Nat->Int
 | 0=>0
 | k+1=>Qv7 T a k*256+byt T (a+k)
theorem Qur(T:ByteArray)(a:Nat):Qv7 T a 4=Qf6 T a:=by simp only[Qv7,Qf6,Nat.add_zero];omega
theorem Qon(T:ByteArray)(a:Nat)(w:World)(h:a+4<=T.size)(hT:T.size<=1099511627776):Calls Tryz.prog 258 #[.string T,.int .i64 (a:Int)] w fun e w'=>e=.returned (.int .u32 (Qf6 T a))/\w=w':=by
 have hsz:(4:Int)<=(T.size:Int):=by omega
 have ha:(a:Int)<=(T.size:Int)-4:=by omega
 have d0:decide ((a:Int)<0)=false:=by rw[decide_eq_false_iff_not];omega
 have d2:decide ((T.size:Int)<4)=false:=by rw[decide_eq_false_iff_not];omega
 have d1:decide ((T.size:Int)-4<(a:Int))=false:=by rw[decide_eq_false_iff_not];omega
 have E:=hU (Qur T a)
 go_enter Tryz.func258,Tryz.ntmps258
 go_wp2_with fail
 go_loop [5,6] (fun x i=>∃(k:Nat) (q:Int),k<=4/\i=.int .i64 k/\x=.int .u32 q/\0<=q/\q<256 ^ k/\Hid (q=Qv7 T a k)) (fun _ i=>4-(intOf i).toNat)
 case atStart=>exact⟨0,0,by omega,rfl,rfl,by omega,by decide,hU rfl⟩
 case round=>
  obtain⟨k,q,hk,rfl,rfl,q0,q1,hq⟩:=hrel
  clear d0 d1 d2
  by_cases hlt:k<4
  · have ht:a+k<T.size:=by omega
    have hb:=Qn9 T (a+k)
    obtain⟨c,hc⟩:∃ c,c=byt T (a+k):=⟨_,rfl⟩
    have Hc:=hU hc
    rw[<-hc] at hb
    rw[Qr9 ht] at hc
    have hq1:q<16777216:=by
     have:k=0\/k=1\/k=2\/k=3:=by omega
     rcases this with rfl|rfl|rfl|rfl <;> omega
    have hq2:q*256+c<256 ^ (k+1):=by
     have:k=0\/k=1\/k=2\/k=3:=by omega
     rcases this with rfl|rfl|rfl|rfl <;> omega
    have E2:Hid (q*256+c=Qv7 T a (k+1)):=hU (by rw[hq.out,Hc.out];rfl)
    clear q1
    obtain⟨hb0,hb1⟩:=hb
    have hc':(T[a+k].toNat:Int)=c:=hc.symm
    clear hc
    go_wp2_with fail
    go_round
    case rel=>exact⟨k+1,q*256+c,by omega,by go_num,by go_num,by omega,hq2,E2⟩
    case measure=>simp[intOf];omega
  · obtain rfl:k=4:=by omega
    go_wp2_with fail
    go_ret
    exact⟨Qez (by rw[hq.out,E.out]),rfl⟩
theorem Qmr(T:ByteArray)(a:Int)(w:World)(h0:0<=a)(h:a+4<=T.size)(hT:T.size<=1099511627776):Calls Tryz.prog 258 #[.string T,.int .i64 a] w fun e w'=>e=.returned (.int .u32 (Qf6 T a.toNat))/\w=w':=by
 obtain⟨k,rfl⟩:=Int.eq_ofNat_of_zero_le h0
 rw[Int.toNat_natCast]
 exact Qon T k w (by omega) hT
def Qgh (x:Int):ByteArray:=Qc8 [x / 16777216,x / 65536 % 256,x / 256 % 256,x % 256]
theorem Qgy(x:Int):(Qgh x).size=4:=rfl
theorem Qip(x:Int)(w:World)(h0:0<=x)(h1:x<4294967296):Calls Tryz.prog 133 #[.int .u32 x] w fun e w'=>e=.returned (.string (Qgh x))/\Ext w w':=by
 have hconv:=Qg9 [x / 16777216,x / 65536 % 256,x / 256 % 256,x % 256] (by intro y hy;simp only[List.mem_cons,List.not_mem_nil,or_false] at hy;rcases hy with rfl|rfl|rfl|rfl <;> omega) w
 simp only[List.length_cons,List.length_nil,Nat.zero_add,Nat.reduceAdd,List.map_cons,List.map_nil] at hconv
 go_enter Tryz.func133,Tryz.ntmps133
 go_wp2_with fail
 go_ret
 exact⟨rfl,by go_grown⟩
theorem Ql9(x:Int)(w:World)(h0:0<=x)(h1:x<4294967296):Calls Tryz.prog 257 #[.int .u32 x] w fun e w'=>e=.returned (.string (Qgh x))/\Ext w w':=by
 have hconv:=Qg9 [x / 16777216,x / 65536 % 256,x / 256 % 256,x % 256] (by intro y hy;simp only[List.mem_cons,List.not_mem_nil,or_false] at hy;rcases hy with rfl|rfl|rfl|rfl <;> omega) w
 simp only[List.length_cons,List.length_nil,Nat.zero_add,Nat.reduceAdd,List.map_cons,List.map_nil] at hconv
 go_enter Tryz.func257,Tryz.ntmps257
 go_wp2_with fail
 go_ret
 exact⟨rfl,by go_grown⟩
end Go.Proofs.YtbnkjgcpjeedfaaGreat
