/- Steps of the proof, joined: E1, V12, V13, VStr, E2, E3, E4, E5, E6, E7, VRows, E8, E9. -/
import Derived.Test.YtnjmddlgpcnpeaaGreatZeb
import Derived.Test.YtnjmddlgpcnpeaaGreatZec
import Derived.Test.YtnjmddlgpcnpeaaGreatVc
namespace Go.Proofs.YtnjmddlgpcnpeaaGreat
open Go
attribute [local go_sem] run_skip run_reg run_seq run_blk run_exit run_ret run_cond if_true if_false at_code_n at_code_x at_code_r at_blk_n at_blk_x at_blk_r at_rnd_n at_rnd_x at_rnd_r at_fin_n at_fin_r ops_nil ops_grd grd_und grd_tt grd_ff grd_tf grd_ft ops_mv ops_pick ops_bin ops_binZ ops_un ops_binb ops_eqs ops_isnil ops_pnil ops_b2s ops_s2b ops_b2sB ops_s2a ops_slcA ops_aidx vaidx vb2sB vs2a vslcA ops_sidx vs2b vsidx srcX ops_appx apx_mk ops_mks ops_mko mks_int mko_int vbinb veqs visnil vpnil vb2s ops_conv ops_fld ops_ix ops_ixa ops_load ops_nilck ops_ext ops_len ops_slen ops_mn ops_mx ops_bld ops_bsl ops_slc ops_sslc ops_box ops_alc ops_alcX ops_boxX ops_bslo ops_store ops_app ops_call ev_t ev_c put_get put_none opv_mk stb_some sto_ptr over_get rel_mk vnat Bx Stp vbld vbsl put_box_same put_box_ne put_sz put_own use_box use_sz put_put args0 List.getD_cons_zero List.getD_cons_succ List.getD_nil vpick vbin vbinZ vbinI vbinS vun vconv norm vfld vnil vlen vslen vext vmm vix vixa vload takeV takeB mono_nil mono_two mono_sc mono_any mono_und mono_sl mono_agg mono_ep vmlk vmlen vmnil vinil vent vmfn allSc vslc3 kOk fitsV ops_mlk ops_mlen ops_mnil ops_inil ops_ent ops_mfn ops_slc3 ops_mkm ops_mup mup_map mub_some ops_mdel mdl_nil mdl_map mdb_some ops_rng rng_none rng_map rgb_some ops_nxt ops_ment met_map meb_some ops_est est_map esb_some ops_clr clr_nil clr_box clb_some ops_calv clv_func vslc vsslc fillV splice V.cells strip strip1 allLen ptrV obsOk shAmt IntKind.bits List.map_cons List.map_nil List.length_cons List.length_nil List.getElem?_cons_zero List.getElem?_cons_succ List.take_succ_cons List.take_zero List.drop_succ_cons List.drop_zero List.cons_append List.nil_append List.append_nil List.take_nil List.drop_nil Option.map_some Option.map_none and_true true_and Int.toNat_natCast Nat.min_def Nat.zero_add Nat.add_zero Nat.zero_mul Nat.mul_one Nat.one_mul vret rvAll rvVal resv_1 resv_2 decide_true decide_false Int.lt_irrefl Bool.not_true Bool.not_false ne_eq not_true_eq_false not_false_eq_true eq_self Bool.true_eq_false Bool.false_eq_true List.contains_cons List.contains_nil Bool.false_or Bool.true_or Bool.or_false Bool.or_true List.mem_cons List.not_mem_nil or_false or_true true_or false_or mono_bs ops_aidxn vaidxn ops_fv vfv ops_mki vmki ops_inv ops_cpy cpy_box cpb_some
section
namespace Ev
open Go
noncomputable section
structure N8 (α:Type) where
  a0:α
  a1:α
  a2:α
  a3:α
  a4:α
  a5:α
  a6:α
  a7:α
inductive Dg where
  | d0 | d1 | d2 | d3 | d4 | d5 | d6 | d7
  deriving DecidableEq
def dg (n:Nat):Dg:=match n with
  | 0=>.d0 | 1=>.d1 | 2=>.d2 | 3=>.d3 | 4=>.d4 | 5=>.d5 | 6=>.d6 | _=>.d7
structure Pj (α:Type) where
  f:N8 α→α
def pj {α:Type} (d:Dg):Pj α:=Dg.rec (motive:=fun _=>Pj α) ⟨fun t=>t.1⟩ ⟨fun t=>t.2⟩ ⟨fun t=>t.3⟩ ⟨fun t=>t.4⟩ ⟨fun t=>t.5⟩ ⟨fun t=>t.6⟩ ⟨fun t=>t.7⟩ ⟨fun t=>t.8⟩ d
structure Up (α β:Type) where
  f:N8 α→(α→(α→β)→β)→(N8 α→β)→β
def up {α β:Type} (d:Dg):Up α β:=Dg.rec (motive:=fun _=>Up α β)
  ⟨fun t g k=>N8.rec (motive:=fun _=>β) (fun a b c d e f h i=>g a fun x=>k ⟨x,b,c,d,e,f,h,i⟩) t⟩
  ⟨fun t g k=>N8.rec (motive:=fun _=>β) (fun a b c d e f h i=>g b fun x=>k ⟨a,x,c,d,e,f,h,i⟩) t⟩
  ⟨fun t g k=>N8.rec (motive:=fun _=>β) (fun a b c d e f h i=>g c fun x=>k ⟨a,b,x,d,e,f,h,i⟩) t⟩
  ⟨fun t g k=>N8.rec (motive:=fun _=>β) (fun a b c d e f h i=>g d fun x=>k ⟨a,b,c,x,e,f,h,i⟩) t⟩
  ⟨fun t g k=>N8.rec (motive:=fun _=>β) (fun a b c d e f h i=>g e fun x=>k ⟨a,b,c,d,x,f,h,i⟩) t⟩
  ⟨fun t g k=>N8.rec (motive:=fun _=>β) (fun a b c d e f h i=>g f fun x=>k ⟨a,b,c,d,e,x,h,i⟩) t⟩
  ⟨fun t g k=>N8.rec (motive:=fun _=>β) (fun a b c d e f h i=>g h fun x=>k ⟨a,b,c,d,e,f,x,i⟩) t⟩
  ⟨fun t g k=>N8.rec (motive:=fun _=>β) (fun a b c d e f h i=>g i fun x=>k ⟨a,b,c,d,e,f,h,x⟩) t⟩ d
def rep8 {α:Type} (x:α):N8 α:=⟨x,x,x,x,x,x,x,x⟩
abbrev T2 (α:Type):=N8 (N8 α)
abbrev T3 (α:Type):=N8 (T2 α)
abbrev T6 (α:Type):=T3 (T3 α)
inductive W where
  | und
  | any
  | int (k:IntKind) (n:Int)
  | bool (b:Bool)
  | str (l:List Int)
  | nilp
  | ptr (i o:Nat)
  | ep (cs:List W) (off:Nat)
  | sl (t:Tk) (l:List W)
  | bsl (i o n:Nat) (c:Option Nat)
  | osl (i j n:Nat)
  | nilm
  | map (i:Nat)
  | nili
  | iface (t:TypeId) (w:W)
  | nilf
  | func (f:FuncId) (first cap:List W)
  | agg (cs:List W)
  | tup (cs:List W)
  | sy (k:IntKind) (i j m s:Nat) (ne:List Int)
  | opq (i:Nat)
  | sstr (l:List W)
inductive Bx where
  | no
  | cells (o:Option (Nat × Nat)) (l:List W)
  | row (m:Nat)
  | mp (ag:Bool) (lf:List Lf) (es:List (W × W × Nat)) (c:Nat)
  | it (m:Option Nat) (since:Nat) (seen:List Nat) (last:Nat)
  | si (l:List Int) (pos:Nat)
structure Hp where
  t:T6 Bx
  nx:Nat
def bi {α:Type} (c:Bool) (x y:α):α:=Bool.rec (motive:=fun _=>α) y x c
def oe {α β:Type} (o:Option α) (n:β) (f:α→β):β:=Option.rec (motive:=fun _=>β) n f o
def ie {β:Type} (n:Int) (f g:Nat→β):β:=Int.rec (motive:=fun _=>β) f g n
def wI {β:Type} (w:W) (d:β) (f:IntKind→Int→β):β :=
  W.rec (motive_1:=fun _=>β) (motive_2:=fun _=>Unit) d d f (fun _=>d) (fun _=>d) d (fun _ _=>d) (fun _ _ _=>d) (fun _ _ _=>d) (fun _ _ _ _=>d) (fun _ _ _=>d) d (fun _=>d) d (fun _ _ _=>d) d (fun _ _ _ _ _=>d) (fun _ _=>d) (fun _ _=>d) (fun _ _ _ _ _ _=>d) (fun _=>d) (fun _ _=>d) () (fun _ _ _ _=>()) w
def wB {β:Type} (w:W) (d:β) (f:Bool→β):β :=
  W.rec (motive_1:=fun _=>β) (motive_2:=fun _=>Unit) d d (fun _ _=>d) f (fun _=>d) d (fun _ _=>d) (fun _ _ _=>d) (fun _ _ _=>d) (fun _ _ _ _=>d) (fun _ _ _=>d) d (fun _=>d) d (fun _ _ _=>d) d (fun _ _ _ _ _=>d) (fun _ _=>d) (fun _ _=>d) (fun _ _ _ _ _ _=>d) (fun _=>d) (fun _ _=>d) () (fun _ _ _ _=>()) w
def wP {β:Type} (w:W) (d:β) (f:Nat→Nat→β):β :=
  W.rec (motive_1:=fun _=>β) (motive_2:=fun _=>Unit) d d (fun _ _=>d) (fun _=>d) (fun _=>d) d f (fun _ _ _=>d) (fun _ _ _=>d) (fun _ _ _ _=>d) (fun _ _ _=>d) d (fun _=>d) d (fun _ _ _=>d) d (fun _ _ _ _ _=>d) (fun _ _=>d) (fun _ _=>d) (fun _ _ _ _ _ _=>d) (fun _=>d) (fun _ _=>d) () (fun _ _ _ _=>()) w
def xC {β:Type} (b:Bx) (d:β) (f:Option (Nat × Nat)→List W→β):β:=Bx.rec (motive:=fun _=>β) d f (fun _=>d) (fun _ _ _ _=>d) (fun _ _ _ _=>d) (fun _ _=>d) b
def W.cells:W→List W
  | .agg cs=>cs
  | .und | .any | .tup _=>[]
  | v=>[v]
def ofC:V→W
  | .sc (.int k n)=>.int k n
  | .sc (.bool b)=>.bool b
  | .sc (.string s)=>.str (bytesOf s)
  | .sc (.pointer none)=>.nilp
  | .sc (.map none)=>.nilm
  | .sc .nilIface=>.nili
  | .sc .nilFunc=>.nilf
  | .sc (.func (.func f) ⟨[]⟩ ⟨[]⟩)=>.func f [] []
  | .sl .nil []=>.sl .nil []
  | _=>.any
def ofCs:List V→List W
  | []=>[]
  | c :: cs=>ofC c :: ofCs cs
def ofV:V→W
  | .und=>.und
  | .agg cs=>.agg (ofCs cs)
  | v=>ofC v
structure En where
  lo:T2 W
  hi:T3 W
structure XB where
  f:En→W
def cXs (a b:Dg):XB:=⟨fun A=>(pj b).f ((pj a).f A.1)⟩
def cXl (a b c:Dg):XB:=⟨fun A=>(pj c).f ((pj b).f ((pj a).f A.2))⟩
def cX:X→XB
  | .t n=>cond (Nat.ble 64 n) (cond (Nat.ble 576 n) ⟨fun _=>.any⟩ (cXl (dg (Nat.div (Nat.sub n 64) 64)) (dg (Nat.mod (Nat.div n 8) 8)) (dg (Nat.mod n 8)))) (cXs (dg (Nat.div n 8)) (dg (Nat.mod n 8)))
  | .c v=>⟨fun _=>ofV v⟩
structure SB where
  f {β:Type}:En→W→(En→β)→β
def cSs (a b:Dg):SB:=⟨fun A x k=>(up a).f A.1 (fun t k=>(up b).f t (fun _ k=>k x) k) fun t=>k ⟨t,A.2⟩⟩
def cSl (a b c:Dg):SB:=⟨fun A x k=>(up a).f A.2 (fun t k=>(up b).f t (fun t k=>(up c).f t (fun _ k=>k x) k) k) fun t=>k ⟨A.1,t⟩⟩
def cS (n:Nat):SB:=cond (Nat.ble 64 n) (cond (Nat.ble 576 n) ⟨fun A _ k=>k A⟩ (cSl (dg (Nat.div (Nat.sub n 64) 64)) (dg (Nat.mod (Nat.div n 8) 8)) (dg (Nat.mod n 8)))) (cSs (dg (Nat.div n 8)) (dg (Nat.mod n 8)))
def en0:En:=⟨rep8 (rep8 .und),rep8 (rep8 (rep8 .und))⟩
def lget {α:Type} (l:List α):Nat→Option α :=
  List.rec (motive:=fun _=>Nat→Option α) (fun _=>none) (fun a _ ih n=>Nat.rec (motive:=fun _=>Option α) (some a) (fun m _=>ih m) n) l
def ldrop {α:Type} (l:List α):Nat→List α :=
  List.rec (motive:=fun _=>Nat→List α) (fun _=>[]) (fun a l ih n=>Nat.rec (motive:=fun _=>List α) (a :: l) (fun m _=>ih m) n) l
def ltake {α:Type} (l:List α):Nat→List α :=
  List.rec (motive:=fun _=>Nat→List α) (fun _=>[]) (fun a _ ih n=>Nat.rec (motive:=fun _=>List α) [] (fun m _=>a :: ih m) n) l
def lforce {α β:Type} (l:List α) (k:List α→β):β:=List.rec (motive:=fun _=>(List α→β)→β) (fun k=>k []) (fun a _ ih k=>ih fun t=>k (a :: t)) l k
def llen {α:Type} (l:List α):Nat:=List.rec (motive:=fun _=>Nat) 0 (fun _ _ ih=>Nat.succ ih) l
def ile (a b:Int):Bool:=ie a (fun x=>ie b (fun y=>Nat.ble x y) fun _=>false) fun x=>ie b (fun _=>true) fun y=>Nat.ble y x
def ieq (a b:Int):Bool:=ie a (fun x=>ie b (fun y=>Nat.beq x y) fun _=>false) fun x=>ie b (fun _=>false) fun y=>Nat.beq x y
def kn (k:IntKind):Nat:=IntKind.rec (motive:=fun _=>Nat) 0 1 2 3 4 5 6 7 k
def keq (a b:IntKind):Bool:=Nat.beq (kn a) (kn b)
def iW (k:IntKind) (n:Int):Option W:=some (.int k n)
def irange (lo hi:Nat) (k:IntKind) (n:Int):Option W:=ie n (fun m=>bi (Nat.ble m hi) (iW k (.ofNat m)) none) fun m=>bi (Nat.ble m lo) (some (.int k (.negSucc m))) none
def iwrap (m:Nat) (k:IntKind) (n:Int):Option W:=ie n (fun x=>iW k (.ofNat (Nat.mod x m))) fun _=>iW k (Int.emod n (.ofNat m))
structure FI where
  f:Int→Option W
def cNorm (k:IntKind):FI :=
  match k with
  | .i64=>⟨irange 9223372036854775807 9223372036854775807 .i64⟩
  | .i32=>⟨irange 2147483647 2147483647 .i32⟩
  | .i16=>⟨irange 32767 32767 .i16⟩
  | .i8=>⟨irange 127 127 .i8⟩
  | .u64=>⟨iwrap 18446744073709551616 .u64⟩
  | .u32=>⟨iwrap 4294967296 .u32⟩
  | .u16=>⟨iwrap 65536 .u16⟩
  | .u8=>⟨iwrap 256 .u8⟩
def enorm (k:IntKind) (n:Int):Option W:=(cNorm k).f n
def ubits:IntKind→Option Nat
  | .u8=>some 8 | .u16=>some 16 | .u32=>some 32 | .u64=>some 64 | .i64=>some 63 | _=>none
def ebit (f:Nat→Nat→Nat) (k:IntKind) (a b:Int):Option W:=oe (ubits k) none fun n=>ie a (fun x=>ie b (fun y=>bi (Nat.ble (Nat.pow 2 n) x) none (bi (Nat.ble (Nat.pow 2 n) y) none (iW k (.ofNat (f x y))))) fun _=>none) fun _=>none
def kbits:IntKind→Nat
  | .i8 | .u8=>8 | .i16 | .u16=>16 | .i32 | .u32=>32 | .i64 | .u64=>64
def kg (k k':IntKind) (x:Option W):Option W:=bi (keq k k') x none
structure F1 where
  f:W→Option W
structure F2 where
  f:W→W→Option W
def iadd (a b:Int):Int:=ie a (fun x=>ie b (fun y=>.ofNat (Nat.add x y)) fun _=>Int.add a b) fun _=>Int.add a b
def isub (a b:Int):Int:=ie a (fun x=>ie b (fun y=>bi (Nat.ble y x) (.ofNat (Nat.sub x y)) (.negSucc (Nat.sub (Nat.sub y x) 1))) fun _=>Int.sub a b) fun _=>Int.sub a b
def onII (a b:W) (f:IntKind→Int→IntKind→Int→Option W):Option W:=wI a none fun k x=>wI b none fun k' y=>f k x k' y
def nInt (n:Int) (f:Nat→Option W):Option W:=ie n f fun _=>none
def pInt (n:Int) (f:Nat→Option W):Option W:=ie n (fun m=>bi (Nat.beq m 0) none (f m)) fun _=>none
def shAm (k:IntKind) (s:Nat):Nat:=Nat.pow 2 (cond (Nat.ble s (kbits k)) s (kbits k))
def eSub (a b:W):Option W:=onII a b fun k x k' y=>kg k k' ((cNorm k).f (isub x y))
def eMul (a b:W):Option W:=onII a b fun k x k' y=>kg k k' ((cNorm k).f (Int.mul x y))
def eQuo (a b:W):Option W:=onII a b fun k x k' y=>nInt x fun x=>pInt y fun y=>kg k k' ((cNorm k).f (.ofNat (Nat.div x y)))
def eRem (a b:W):Option W:=onII a b fun k x k' y=>nInt x fun x=>pInt y fun y=>kg k k' (iW k (.ofNat (Nat.mod x y)))
def eBit (g:Nat→Nat→Nat) (a b:W):Option W:=onII a b fun k x k' y=>kg k k' (ebit g k x y)
def onII2 (a b:W) (d:Option W) (f:IntKind→Int→IntKind→Int→Option W):Option W:=wI a d fun k x=>wI b d fun k' y=>f k x k' y
def wbits:IntKind→Option Nat
  | .u8=>some 8 | .u16=>some 16 | .u32=>some 32 | .u64=>some 64 | _=>none
def syShr (a b:W):Option W:=match a,b with
  | .sy k i j m 0 ne,.int _ (.ofNat s)=>bi (Nat.ble s m && Nat.ble s (kbits k)) (some (.sy k i (Nat.add j s) (Nat.sub m s) 0 ne)) none
  | _,_=>none
def syShl (a b:W):Option W:=match a,b with
  | .sy k i j m s0 ne,.int _ (.ofNat s)=>match wbits k with
    | some n=>bi (Nat.ble (Nat.add (Nat.add m s0) s) n) (some (.sy k i j m (Nat.add s0 s) ne)) none
    | none=>none
  | _,_=>none
def syOr (a b:W):Option W:=match a,b with
  | .int k (.ofNat 0),.sy k' i j m s ne=>match wbits k with
    | some n=>bi (keq k k' && Nat.ble (Nat.add m s) n) (some (.sy k i j m s ne)) none
    | none=>none
  | .sy k i j m s ne,.sy k' i' j' m' 0 _=>match wbits k with
    | some n=>bi (keq k k' && Nat.beq i i' && Nat.beq s m' && Nat.beq j (Nat.add j' m') && Nat.ble (Nat.add m m') n) (some (.sy k i j' (Nat.add m m') 0 ne)) none
    | none=>none
  | _,_=>none
def syConv (k:IntKind) (w:W):Option W:=match w with
  | .sy _ i j m s ne=>match wbits k with
    | some n=>bi (Nat.ble (Nat.add m s) n) (some (.sy k i j m s ne)) (bi (Nat.beq s 0 && Nat.ble n m) (some (.sy k i j n 0 ne)) none)
    | none=>none
  | _=>none
def imem (n:Int):List Int→Bool
  | []=>false
  | a :: l=>cond (ieq a n) true (imem n l)
def sySame:W→W→Bool
  | .sy k i j m s _,.sy k' i' j' m' s' _=>keq k k' && Nat.beq i i' && Nat.beq j j' && Nat.beq m m' && Nat.beq s s'
  | .int k a,.int k' b=>keq k k' && ieq a b
  | _,_=>false
def sySames:List W→List W→Bool
  | [],[]=>true
  | a :: l,b :: m=>sySame a b && sySames l m
  | _,_=>false
def syEq (a b:W):Option Bool:=match a,b with
  | .sy k i j m s ne,.sy k' i' j' m' s' ne'=>bi (sySame (.sy k i j m s ne) (.sy k' i' j' m' s' ne')) (some true) none
  | .sy k _ 0 32 0 ne,.int k' n=>bi (keq k k' && imem n ne) (some false) none
  | .int k' n,.sy k _ 0 32 0 ne=>bi (keq k k' && imem n ne) (some false) none
  | .sstr l,.sstr m=>bi (sySames l m) (some true) none
  | _,_=>none
def syCmp (neg:Bool) (a b:W):Option W:=match syEq a b with
  | some t=>some (.bool (cond neg (!t) t))
  | none=>none
def eShl (a b:W):Option W:=onII2 a b (syShl a b) fun k x _ y=>nInt y fun s=>(cNorm k).f (Int.mul x (.ofNat (shAm k s)))
def eShr (a b:W):Option W:=onII2 a b (syShr a b) fun k x _ y=>nInt x fun x=>nInt y fun s=>iW k (.ofNat (Nat.div x (shAm k s)))
def eOr (a b:W):Option W:=onII2 a b (syOr a b) fun k x k' y=>kg k k' (ebit Nat.lor k x y)
def leq:List Int→List Int→Bool
  | [],[]=>true
  | a :: l,b :: m=>ieq a b && leq l m
  | _,_=>false
def wS {β:Type} (w:W) (d:β) (g:List Int→β) (f:IntKind→Int→β):β :=
  W.rec (motive_1:=fun _=>β) (motive_2:=fun _=>Unit) d d f (fun _=>d) g d (fun _ _=>d) (fun _ _ _=>d) (fun _ _ _=>d) (fun _ _ _ _=>d) (fun _ _ _=>d) d (fun _=>d) d (fun _ _ _=>d) d (fun _ _ _ _ _=>d) (fun _ _=>d) (fun _ _=>d) (fun _ _ _ _ _ _=>d) (fun _=>d) (fun _ _=>d) () (fun _ _ _ _=>()) w
def onSI2 (a b:W) (d:Option W) (g:List Int→List Int→Option W) (f:IntKind→Int→IntKind→Int→Option W):Option W :=
  wS a d (fun x=>wS b d (fun y=>g x y) fun _ _=>none) fun k x=>wI b d fun k' y=>f k x k' y
def onSI (a b:W) (g:List Int→List Int→Option W) (f:IntKind→Int→IntKind→Int→Option W):Option W :=
  wS a none (fun x=>wS b none (fun y=>g x y) fun _ _=>none) fun k x=>wI b none fun k' y=>f k x k' y
def eAdd (a b:W):Option W:=onSI a b (fun x y=>bi (Nat.ble (Nat.add (llen x) (llen y)) 9223372036854775807) (some (.str (x ++ y))) none) fun k x k' y=>kg k k' ((cNorm k).f (iadd x y))
def bb (b:Bool):Option W:=some (.bool b)
def eEql (a b:W):Option W:=onSI2 a b (syCmp false a b) (fun x y=>bb (leq x y)) fun k x k' y=>kg k k' (bb (ieq x y))
def eNeq (a b:W):Option W:=onSI2 a b (syCmp true a b) (fun x y=>bb (!(leq x y))) fun k x k' y=>kg k k' (bb (!(ieq x y)))
def eLss (a b:W):Option W:=onII a b fun k x k' y=>kg k k' (bb (!(ile y x)))
def eGtr (a b:W):Option W:=onII a b fun k x k' y=>kg k k' (bb (!(ile x y)))
def syLeq (a b:W):Option W:=match a,b with
  | .sy k _ _ m s _,.int k' (.ofNat n)=>bi (keq k k' && Nat.ble (Nat.pow 2 (Nat.add m s)) (Nat.succ n)) (some (.bool true)) none
  | _,_=>none
def eLeq (a b:W):Option W:=onII2 a b (syLeq a b) fun k x k' y=>kg k k' (bb (ile x y))
def eGeq (a b:W):Option W:=onII a b fun k x k' y=>kg k k' (bb (ile y x))
def andNot (x y:Nat):Nat:=Nat.xor x (Nat.land x y)
def cBin:BinOp→F2
  | .add=>⟨eAdd⟩
  | .sub=>⟨eSub⟩
  | .mul=>⟨eMul⟩
  | .quo=>⟨eQuo⟩
  | .rem=>⟨eRem⟩
  | .and=>⟨eBit Nat.land⟩
  | .or=>⟨eOr⟩
  | .xor=>⟨eBit Nat.xor⟩
  | .andNot=>⟨eBit andNot⟩
  | .shl=>⟨eShl⟩
  | .shr=>⟨eShr⟩
  | .eql=>⟨eEql⟩
  | .neq=>⟨eNeq⟩
  | .lss=>⟨eLss⟩
  | .leq=>⟨eLeq⟩
  | .gtr=>⟨eGtr⟩
  | .geq=>⟨eGeq⟩
def eBinZ:BinOp→W→W→Option W
  | .quo=>eQuo
  | .rem=>eRem
  | _=>fun _ _=>none
def eun (op:UnOp):W→Option W
  | .int k a=>match op with
    | .neg=>enorm k (Int.neg a)
    | .xor=>match ubits k with
      | some n=>cond (keq k .i64) none (ebit Nat.xor k (.ofNat (Nat.sub (Nat.pow 2 n) 1)) a)
      | none=>none
    | _=>none
  | .bool b=>match op with
    | .not=>some (.bool (!b))
    | _=>none
  | _=>none
def beqb:Bool→Bool→Bool
  | true,true=>true
  | false,false=>true
  | _,_=>false
def ebinb (neg:Bool):W→W→Option W
  | .bool a,.bool b=>some (.bool (cond neg (!(beqb a b)) (beqb a b)))
  | _,_=>none
def eeq:List Lf→List W→List W→Option Bool
  | [],[],[]=>some true
  | .int k :: l,.int k1 a :: m,.int k2 b :: n=>cond (keq k k1 && keq k k2) (match eeq l m n with | some r=>some (ieq a b && r) | none=>none) none
  | .bool :: l,.bool a :: m,.bool b :: n=>match eeq l m n with | some r=>some (beqb a b && r) | none=>none
  | .str :: l,.str a :: m,.str b :: n=>match eeq l m n with | some r=>some (leq a b && r) | none=>none
  | _,_,_=>none
def eeqs (neg:Bool) (l:List Lf):W→W→Option W
  | .agg cs,.agg ds=>match eeq l cs ds with
    | some r=>some (.bool (cond neg (!r) r))
    | none=>none
  | _,_=>none
def eisnil (neg:Bool):W→Option W
  | .sl .nil []=>some (.bool (!neg))
  | .sl (.own _ _) _=>some (.bool neg)
  | .sl .no (_ :: _)=>some (.bool neg)
  | .sl .nn _=>some (.bool neg)
  | .bsl _ _ _ _=>some (.bool neg)
  | .osl _ _ _=>some (.bool neg)
  | _=>none
def epnil (neg:Bool):W→Option W
  | .nilp=>some (.bool (!neg))
  | .ptr _ _=>some (.bool neg)
  | .ep _ _=>some (.bool neg)
  | _=>none
def emnil (neg:Bool):W→Option W
  | .nilm=>some (.bool (!neg))
  | .map _=>some (.bool neg)
  | _=>none
def einil (neg:Bool):W→Option W
  | .nili=>some (.bool (!neg))
  | .iface _ _=>some (.bool neg)
  | _=>none
def u8W:List W→Option (List Int)
  | []=>some []
  | .int .u8 (.ofNat n) :: l=>cond (Nat.ble n 255) (match u8W l with
    | some r=>some (.ofNat n :: r)
    | none=>none) none
  | _=>none
def syB:List W→Bool
  | []=>true
  | .int .u8 (.ofNat n) :: l=>Nat.ble n 255 && syB l
  | .sy .u8 _ _ m s _ :: l=>Nat.ble (Nat.add m s) 8 && syB l
  | _=>false
def syStr (l:List W):Option W:=cond (syB l) (some (.sstr l)) none
def eb2s:W→Option W
  | .sl _ l=>match u8W l with
    | some r=>some (.str r)
    | none=>syStr l
  | _=>none
def byW (l:List Int):List W:=l.map fun n=>.int .u8 n
def es2b:W→Option W
  | .str l=>cond (Nat.ble (llen l) 1000000000000) (some (.sl .no (byW l))) none
  | _=>none
def esidx:W→W→Option W
  | .str l,.int _ (.ofNat n)=>match lget l n with
    | some b=>some (.int .u8 b)
    | none=>none
  | _,_=>none
def eaidx (len:Nat):W→W→Option W
  | .agg cs,.int _ (.ofNat n)=>cond (Nat.ble len n) none (lget cs n)
  | _,_=>none
def eaidxn (len size:Nat):W→W→Option W
  | .agg cs,.int _ (.ofNat n)=>cond (Nat.ble len n) none (cond (Nat.ble (Nat.add (Nat.mul n size) size) (llen cs)) (some (.agg (ltake (ldrop cs (Nat.mul n size)) size))) none)
  | _,_=>none
def efv (off:Nat):Option Nat→W→Option W
  | some size,.agg cs=>cond (Nat.ble (Nat.add off size) (llen cs)) (some (.agg (ltake (ldrop cs off) size))) none
  | none,.agg cs=>lget cs off
  | _,_=>none
def esc:W→Bool
  | .und | .any | .ep _ _ | .agg _ | .tup _ | .sl _ _ | .sy _ _ _ _ _ _ | .opq _ | .sstr _=>false
  | _=>true
def emki (t:TypeId) (w:W):Option W:=cond (esc w) (some (.iface t w)) none
def esrcX:Option V→W→Option (List W)
  | none,.str l=>some (byW l)
  | some d,.int _ (.ofNat n)=>some (List.replicate n (ofC d))
  | _,_=>none
def wone:W→Bool
  | .und | .any | .agg _ | .tup _=>false
  | _=>true
def esplice (cs:List W) (off:Nat) (ds:List W):Option (List W) :=
  cond (Nat.ble (Nat.add off (llen ds)) (llen cs)) (some (ltake cs off ++ (ds ++ ldrop cs (Nat.add off (llen ds))))) none
def efill:List W→List (Nat × Nat × W)→Option (List W)
  | cs,[]=>some cs
  | cs,(off,size,d) :: rest=>cond (Nat.beq (llen d.cells) size && !(Nat.beq size 0)) (match esplice cs off d.cells with
    | some r=>efill r rest
    | none=>none) none
def etake1 (c:W):Option W:=bi (wone c) (some c) none
def etake (cs:List W) (off:Nat) (n:Option Nat):Option W :=
  oe n (oe (lget cs off) none etake1) fun n=>bi (Nat.ble (Nat.add off n) (llen cs)) (some (.agg (ltake (ldrop cs off) n))) none
structure Pl where
  a:Dg
  b:Dg
  c:Dg
  d:Dg
  e:Dg
  f:Dg
  deriving DecidableEq
def pl (n:Nat):Pl:=⟨dg (Nat.div n 32768),dg (Nat.mod (Nat.div n 4096) 8),dg (Nat.mod (Nat.div n 512) 8),dg (Nat.mod (Nat.div n 64) 8),dg (Nat.mod (Nat.div n 8) 8),dg (Nat.mod n 8)⟩
def get6 (p:Pl) (t:T6 Bx):Bx:=(pj p.6).f ((pj p.5).f ((pj p.4).f ((pj p.3).f ((pj p.2).f ((pj p.1).f t)))))
def set6 {β:Type} (p:Pl) (t:T6 Bx) (x:Bx) (k:T6 Bx→β):β :=
  (up p.1).f t (fun t k=>(up p.2).f t (fun t k=>(up p.3).f t (fun t k=>(up p.4).f t (fun t k=>(up p.5).f t (fun t k=>(up p.6).f t (fun _ k=>k x) k) k) k) k) k) k
def Hp.get (H:Hp) (i:Nat):Bx:=get6 (pl i) H.1
def hp0:Hp:=⟨rep8 (rep8 (rep8 (rep8 (rep8 (rep8 .no))))),0⟩
def eload (H:Hp) (n:Option Nat) (w:W):Option W :=
  W.rec (motive_1:=fun _=>Option W) (motive_2:=fun _=>Unit) none none (fun _ _=>none) (fun _=>none) (fun _=>none) none (fun i o=>xC (H.get i) none fun _ cs=>etake cs o n) (fun cs off _=>etake cs off n) (fun _ _ _=>none) (fun _ _ _ _=>none) (fun _ _ _=>none) none (fun _=>none) none (fun _ _ _=>none) none (fun _ _ _ _ _=>none) (fun _ _=>none) (fun _ _=>none) (fun _ _ _ _ _ _=>none) (fun _=>none) (fun _ _=>none) () (fun _ _ _ _=>()) w
def eix (size:Nat) (x i:W):Option W :=
  match x,i with
  | .sl _ l,.int _ (.ofNat n)=>match lget l n with
    | some d=>cond (Nat.beq (llen d.cells) size && !(Nat.beq size 0)) (some (.ep d.cells 0)) none
    | none=>none
  | .bsl b o m _,.int _ (.ofNat n)=>cond (Nat.ble m n) none (some (.ptr b (Nat.add o (Nat.mul n size))))
  | .osl b _ m,.int _ (.ofNat n)=>cond (Nat.ble m n) none (some (.ptr b (Nat.mul n size)))
  | _,_=>none
def eixa (len size:Nat) (x i:W):Option W :=
  match x,i with
  | .ptr b o,.int _ (.ofNat n)=>cond (Nat.ble len n) none (some (.ptr b (Nat.add o (Nat.mul n size))))
  | .ep cs o,.int _ (.ofNat n)=>cond (Nat.ble len n) none (some (.ep cs (Nat.add o (Nat.mul n size))))
  | _,_=>none
def efld (off:Nat):W→Option W
  | .ptr b o=>some (.ptr b (Nat.add o off))
  | .ep cs o=>some (.ep cs (Nat.add o off))
  | _=>none
def enilck:W→Option W
  | .ptr b o=>some (.ptr b o)
  | .ep cs o=>some (.ep cs o)
  | _=>none
def elen:W→Option W
  | .sl _ l=>some (.int .i64 (.ofNat (llen l)))
  | .bsl _ _ n _=>some (.int .i64 (.ofNat n))
  | .osl _ _ n=>some (.int .i64 (.ofNat n))
  | .opq i=>some (.sy .i64 (Nat.add i 2) 0 9 0 [])
  | _=>none
def eslen:W→Option W
  | .str l=>some (.int .i64 (.ofNat (llen l)))
  | _=>none
def eext (i:Nat):W→Option W
  | .tup cs=>lget cs i
  | _=>none
def emm (mx:Bool):W→W→Option W
  | .int k a,.int _ b=>some (.int k (cond mx (cond (ile a b) b a) (cond (ile a b) a b)))
  | _,_=>none
def econv (k:IntKind) (w:W):Option W:=wI w (syConv k w) fun _ n=>(cNorm k).f n
def allS1 (size:Nat):List W→Bool
  | []=>true
  | d :: l=>Nat.beq (llen d.cells) size && allS1 size l
def allS (size:Nat) (l:List W):Bool:=bi (Nat.beq size 0) false (allS1 size l)
def obnd:Option W→Option (Option Nat)
  | none=>some none
  | some (.int _ (.ofNat n))=>some (some n)
  | _=>none
def oget (x:Option Nat) (d:Nat):Nat:=match x with | some n=>n | none=>d
def lcut (hi:Option Nat) (l:List W):List W:=match hi with | some h=>ltake l h | none=>l
def eslc (size:Nat) (x:W) (lo hi:Option Nat):Option W :=
  match x with
  | .sl _ l=>cond (Nat.ble (oget lo 0) (oget hi (llen l)) && Nat.ble (oget hi (llen l)) (llen l) && allS size l) (some (.sl .no (ldrop (lcut hi l) (oget lo 0)))) none
  | .bsl b o n c=>match hi with
    | none=>cond (Nat.ble (oget lo 0) n) (match c with
      | some c=>cond (Nat.ble n c) (cond (Nat.beq (oget lo 0) 0 || !(Nat.ble c (oget lo 0))) (some (.bsl b (Nat.add o (Nat.mul (oget lo 0) size)) (Nat.sub n (oget lo 0)) (some (Nat.sub c (oget lo 0))))) (some (.sl .no []))) none
      | none=>cond (Nat.beq (oget lo 0) 0 || !(Nat.ble n (oget lo 0))) (some (.bsl b (Nat.add o (Nat.mul (oget lo 0) size)) (Nat.sub n (oget lo 0)) none)) none) none
    | some h=>cond (Nat.ble (oget lo 0) h) (match c with
      | some c=>cond (Nat.ble h c) (cond (Nat.beq (oget lo 0) 0 || !(Nat.ble c (oget lo 0))) (some (.bsl b (Nat.add o (Nat.mul (oget lo 0) size)) (Nat.sub h (oget lo 0)) (some (Nat.sub c (oget lo 0))))) none) none
      | none=>cond (Nat.ble h n) (cond (Nat.beq (oget lo 0) 0 || !(Nat.ble n (oget lo 0))) (some (.bsl b (Nat.add o (Nat.mul (oget lo 0) size)) (Nat.sub h (oget lo 0)) none)) none) none) none
  | _=>none
def unO:W→W
  | .osl i _ n=>.bsl i 0 n none
  | w=>w
def eslcO (size:Nat) (x:Option W) (lo hi:Option (Option Nat)):Option W :=
  match x,lo,hi with
  | some x,some lo,some hi=>eslc size (unO x) lo hi
  | _,_,_=>none
def esslc (x:Option W) (lo hi:Option (Option Nat)):Option W :=
  match x,lo,hi with
  | some (.str l),some lo,some hi=>cond (Nat.ble (oget lo 0) (oget hi (llen l)) && Nat.ble (oget hi (llen l)) (llen l)) (some (.str (ldrop (ltake l (oget hi (llen l))) (oget lo 0)))) none
  | _,_,_=>none
def eslcA (n size:Nat) (x:Option W) (lo hi:Option (Option Nat)):Option W :=
  match x with
  | some (.ptr b o)=>eslcO size (some (.bsl b o n (some n))) lo hi
  | _=>none
def es2a (_:Hp) (n size:Nat):W→Option W
  | .sl _ l=>cond (allS size l && Nat.ble n (llen l) && Nat.ble 1 (llen l)) (some (.ep (l.flatMap W.cells) 0)) none
  | .bsl b o m _=>cond (Nat.ble n m) (some (.ptr b o)) none
  | _=>none
def eb2sB (H:Hp):W→Option W
  | .bsl b o n _=>match H.get b with
    | .cells _ cs=>cond (Nat.ble (Nat.add o n) (llen cs)) (match u8W (ltake (ldrop cs o) n) with
      | some r=>some (.str r)
      | none=>syStr (ltake (ldrop cs o) n)) none
    | _=>none
  | _=>none
def eslc3 (size:Nat) (x:Option W) (lo:Option (Option Nat)) (hi mx:Option W):Option W :=
  match x,lo,hi,mx with
  | some (.sl _ l),some lo,some (.int _ (.ofNat b)),some (.int _ (.ofNat m))=>cond (Nat.ble (oget lo 0) b && Nat.ble b m && Nat.ble m (llen l) && allS size l) (some (.sl (cond (Nat.beq b m) .full .no) (ldrop (ltake l b) (oget lo 0)))) none
  | some (.bsl b' o _ (some c)),some lo,some (.int _ (.ofNat b)),some (.int _ (.ofNat m))=>cond (Nat.ble (oget lo 0) b && Nat.ble b m && Nat.ble m c && (Nat.beq (oget lo 0) 0 || !(Nat.ble m (oget lo 0)))) (some (.bsl b' (Nat.add o (Nat.mul (oget lo 0) size)) (Nat.sub b (oget lo 0)) (some (Nat.sub m (oget lo 0))))) none
  | _,_,_,_=>none
def wstrip1:W→W
  | .sl _ l=>.sl .no l
  | v=>v
def wstrip:W→W
  | .agg cs=>.agg (cs.map wstrip1)
  | v=>wstrip1 v
abbrev Es:=List (W × W × Nat)
def ekOk (ag:Bool) (lf:List Lf):W→Bool
  | .agg cs=>ag && (match eeq lf cs cs with | some _=>true | none=>false)
  | .int k n=>!ag && (match eeq lf [.int k n] [.int k n] with | some _=>true | none=>false)
  | .str l=>!ag && (match eeq lf [.str l] [.str l] with | some _=>true | none=>false)
  | _=>false
def ekeq (lf:List Lf) (a b:W):Bool:=match eeq lf a.cells b.cells with | some r=>r | none=>false
def emfind (lf:List Lf) (k:W):Es→Option (W × Nat)
  | []=>none
  | e :: es=>cond (ekeq lf k e.1) (some e.2) (emfind lf k es)
def emset (lf:List Lf) (k v:W) (c:Nat):Es→Es
  | []=>[(k,v,c)]
  | e :: es=>cond (ekeq lf k e.1) ((k,v,e.2.2) :: es) (e :: emset lf k v c es)
def emdel (lf:List Lf) (k:W):Es→Es
  | []=>[]
  | e :: es=>cond (ekeq lf k e.1) es (e :: emdel lf k es)
def emstamp (s:Nat) (v:W):Es→Es
  | []=>[]
  | e :: es=>cond (Nat.beq e.2.2 s) ((e.1,v,e.2.2) :: es) (e :: emstamp s v es)
def lfeq:List Lf→List Lf→Bool
  | [],[]=>true
  | .int k :: l,.int k' :: m=>keq k k' && lfeq l m
  | .bool :: l,.bool :: m=>lfeq l m
  | .str :: l,.str :: m=>lfeq l m
  | _,_=>false
def mkOk (ag ag':Bool) (lf lf':List Lf) (k:W):Bool:=beqb ag ag' && lfeq lf lf' && ekOk ag lf k
def emlk (H:Hp) (ag:Bool) (lf:List Lf) (z:W) (ok:Bool) (x k:W):Option W :=
  match x with
  | .nilm=>cond (ekOk ag lf k) (some (cond ok (.tup [z,.bool false]) z)) none
  | .map b=>match H.get b with
    | .mp ag' lf' es _=>cond (mkOk ag ag' lf lf' k) (match emfind lf k es with
      | some r=>some (cond ok (.tup [r.1,.bool true]) r.1)
      | none=>some (cond ok (.tup [z,.bool false]) z)) none
    | _=>none
  | _=>none
def emlen (H:Hp):W→Option W
  | .nilm=>some (.int .i64 (.ofNat 0))
  | .map b=>match H.get b with
    | .mp _ _ es _=>some (.int .i64 (.ofNat (llen es)))
    | _=>none
  | _=>none
def llast:List Nat→Option Nat
  | []=>none
  | [a]=>some a
  | _ :: b :: l=>llast (b :: l)
def eborn (s:Nat):Es→Option (W × W × Nat)
  | []=>none
  | e :: es=>cond (Nat.beq e.2.2 s) (some e) (eborn s es)
def eent (H:Hp):W→Option W
  | .ptr r 0=>match H.get r with
    | .it (some m) _ seen last=>match H.get m with
      | .mp _ _ es c=>match llast seen with
        | some s=>match eborn s es with
          | some e=>cond (Nat.beq c last) (some (.tup [e.1,e.2.1])) none
          | none=>none
        | none=>none
      | _=>none
    | _=>none
  | _=>none
def allE:List W→Bool
  | []=>true
  | a :: l=>esc a && allE l
inductive Ro where
  | ok (w:W) (H:Hp)
  | bad (c:List Nat)
abbrev Cl:=FuncId→List W→Hp→Ro
structure OB where
  f:Cl→En→Hp→Ro
def roE {β:Type} (r:Ro) (b:List Nat→β) (f:W→Hp→β):β:=Ro.rec (motive:=fun _=>β) f b r
def Ro.of (x:Option W) (H:Hp):Ro:=oe x (.bad []) fun w=>.ok w H
def q1 (f:W→Option W) (x:X):OB:=⟨fun _ A H=>Ro.of (f ((cX x).f A)) H⟩
def q2 (f:W→W→Option W) (x y:X):OB:=⟨fun _ A H=>Ro.of (f ((cX x).f A) ((cX y).f A)) H⟩
def h1 (f:Hp→W→Option W) (x:X):OB:=⟨fun _ A H=>Ro.of (f H ((cX x).f A)) H⟩
def h2 (f:Hp→W→W→Option W) (x y:X):OB:=⟨fun _ A H=>Ro.of (f H ((cX x).f A) ((cX y).f A)) H⟩
def oM (A:En):List X→List W
  | []=>[]
  | x :: l=>(cX x).f A :: oM A l
def oP (A:En):List (Nat × Nat × X)→List (Nat × Nat × W)
  | []=>[]
  | (a,b,x) :: l=>(a,b,(cX x).f A) :: oP A l
def oB (A:En) (x:Option X):Option (Option Nat):=match x with
  | none=>some none
  | some x=>obnd (some ((cX x).f A))
def ebld (z:List W) (ps:List (Nat × Nat × W)):Option W:=match efill z ps with
  | some r=>some (.agg r)
  | none=>none
def ebsl (size:Nat) (l:List W):Option W:=cond (allS size l) (some (.sl .no l)) none
def emfn (f:FuncId) (a b:List W):Option W:=cond (allE a && allE b) (some (.func f a b)) none
def epickB (a b c:W):Option W:=wB c none fun c=>bi c (some a) (some b)
def Hp.put {β:Type} (H:Hp) (i:Nat) (b:Bx) (k:Hp→β):β:=set6 (pl i) H.1 b fun t=>k ⟨t,H.2⟩
def Hp.new (H:Hp) (b:Bx) (k:Nat→Hp→Ro):Ro:=bi (Nat.ble 262144 H.2) (.bad [5999]) (set6 (pl H.2) H.1 b fun t=>k H.2 ⟨t,Nat.succ H.2⟩)
def Hp.kill {β:Type} (H:Hp) (i:Nat) (k:Hp→β):β:=set6 (pl i) H.1 .no fun t=>k ⟨t,H.2⟩
def flatW (l:List W):List W:=l.flatMap W.cells
def mk1:List W→Bool
  | [.any]=>false
  | _=>true
def okN (bytes n:Nat):Bool:=Nat.ble n 1000000000000 && Nat.ble (Nat.mul n bytes) 140737488355328
def eappN (size:Nat) (ys:List W) (H:Hp):Ro:=match ys with
  | []=>.ok (.sl .nil []) H
  | _=>H.new (.row (llen ys)) fun g H=>.ok (.sl (.own g size) ys) H
def eappO (size g k:Nat) (l ys:List W) (H:Hp):Ro:=match H.get g with
  | .row m=>bi (Nat.beq m (llen l) && Nat.beq k size) (lforce (l ++ ys) fun l2=>H.kill g fun H=>H.new (.row (llen l2)) fun g H=>.ok (.sl (.own g size) l2) H) (.bad [5006])
  | _=>.bad [5000,g]
def eappF (size:Nat) (l ys:List W) (H:Hp):Ro:=match ys with
  | []=>.bad [5001]
  | _=>bi (allS size l) (H.new (.row (llen (l ++ ys))) fun g H=>.ok (.sl (.own g size) (l ++ ys)) H) (.bad [5007])
def eappG (size b n:Nat) (cs ys:List W) (H:Hp):Ro:=bi (Nat.ble 262143 H.2) (.bad [5999]) (H.kill b fun H=>Hp.new ⟨H.1,Nat.succ H.2⟩ (.cells (some (size,H.2)) (ltake cs (Nat.mul n size) ++ flatW ys)) fun i H2=>.ok (.osl i H.2 (Nat.add n (llen ys))) H2)
def eappB (size b n c:Nat) (ys:List W) (H:Hp):Ro:=match H.get b with
  | .cells none cs=>bi (Nat.beq (llen cs) (Nat.mul c size) && Nat.ble c 1000000000000 && Nat.ble n c) (bi (Nat.ble (Nat.add n (llen ys)) c)
      (bi (mk1 (ltake cs (Nat.mul n size) ++ (flatW ys ++ ldrop cs (Nat.mul (Nat.add n (llen ys)) size)))) (H.put b (.cells none (ltake cs (Nat.mul n size) ++ (flatW ys ++ ldrop cs (Nat.mul (Nat.add n (llen ys)) size)))) fun H=>.ok (.bsl b 0 (Nat.add n (llen ys)) (some c)) H) (.bad [5041]))
      (eappG size b n cs ys H)) (.bad [5008])
  | _=>.bad [5002,b]
def eappP (size b j n:Nat) (ys:List W) (H:Hp):Ro:=match H.get b with
  | .cells (some (size',j')) cs=>bi (Nat.beq size size' && Nat.beq j j' && Nat.ble (Nat.mul n size) (llen cs)) (eappG size b n cs ys H) (.bad [5008])
  | _=>.bad [5002,b]
def eapp1 (size:Nat) (x:W) (ys:List W) (H:Hp):Ro :=
  match x with
  | .sl t l=>match t with
    | .nil=>bi (Nat.beq (llen l) 0) (eappN size ys H) (.bad [5016])
    | .own g k=>eappO size g k l ys H
    | .full=>eappF size l ys H
    | _=>.bad [5003]
  | .bsl b o n c=>match c with
    | some c=>bi (Nat.beq o 0) (eappB size b n c ys H) (.bad [5004])
    | none=>.bad [5009]
  | .osl i j n=>eappP size i j n ys H
  | _=>.bad [5005]
def wlen:W→Nat
  | .sl _ l=>llen l
  | .bsl _ _ n _=>n
  | .osl _ _ n=>n
  | _=>0
def eapp (size bytes:Nat) (x:W) (ys:List W) (H:Hp):Ro:=bi (okN bytes (Nat.add (wlen x) (llen ys)) && allS size ys) (eapp1 size x ys H) (.bad [5015])
def isSl:W→Bool
  | .sl _ _=>true
  | _=>false
def eapp0 (size bytes:Nat) (x:W) (ys:List W) (H:Hp):Ro:=List.rec (motive:=fun _=>Ro) (bi (isSl x) (.ok x H) (eapp size bytes x ys H)) (fun _ _ _=>eapp size bytes x ys H) ys
def allO:List W→Bool
  | []=>true
  | a :: l=>wone a && allO l
def esrcC (H:Hp) (b o n:Nat):Option (List W):=match H.get b with
  | .cells _ cs=>bi (Nat.ble (Nat.add o n) (llen cs) && allO (ltake (ldrop cs o) n)) (some (ltake (ldrop cs o) n)) none
  | _=>none
def esrc1 (H:Hp):W→Option (List W)
  | .bsl b o n _=>esrcC H b o n
  | .osl b _ n=>esrcC H b 0 n
  | _=>none
def eappS (size bytes:Nat) (x y:W) (H:Hp):Ro:=match y with
  | .sl _ ys=>eapp0 size bytes x ys H
  | y=>bi (Nat.beq size 1) (oe (esrc1 H y) (.bad [5030]) fun ys=>eapp0 size bytes x ys H) (.bad [5031])
def eappNB (size:Nat) (ys:List W) (H:Hp):Ro:=bi (Nat.ble 262143 H.2) (.bad [5999]) (Hp.new ⟨H.1,Nat.succ H.2⟩ (.cells (some (size,H.2)) (flatW ys)) fun i H2=>.ok (.osl i H.2 (llen ys)) H2)
def eappH (size bytes:Nat) (x y:W) (H:Hp):Ro:=match x,y with
  | .sl .nil [],.sl _ (a :: ys)=>bi (okN bytes (llen (a :: ys)) && allS size (a :: ys)) (eappNB size (a :: ys) H) (.bad [5015])
  | x,y=>eappS size bytes x y H
def eappx (z:Option V) (size bytes:Nat) (x y:W) (H:Hp):Ro:=match esrcX z y with
  | some ys=>eapp0 size bytes x ys H
  | none=>.bad []
def lmem (n:Nat):List Nat→Bool
  | []=>false
  | a :: l=>cond (Nat.beq a n) true (lmem n l)
def eunseen (seen:List Nat):Es→Es
  | []=>[]
  | e :: es=>cond (lmem e.2.2 seen) (eunseen seen es) (e :: eunseen seen es)
def allB (since:Nat):Es→Bool
  | []=>true
  | e :: es=>cond (Nat.ble since e.2.2) false (allB since es)
abbrev Hint:=Nat→Bool
def ebox (w:W) (H:Hp):Ro:=match w.cells with
  | []=>.bad [5040]
  | cs=>bi (mk1 cs) (H.new (.cells none cs) fun b H=>.ok (.ptr b 0) H) (.bad [5041])
def ealc (cs:List W) (H:Hp):Ro:=bi (mk1 cs) (H.new (.cells none cs) fun b H=>.ok (.ptr b 0) H) (.bad [5041])
def ebslo (hint:Bool) (size:Nat) (l:List W) (H:Hp):Ro :=
  bi (allS size l) (bi hint (bi (mk1 (flatW l)) (H.new (.cells none (flatW l)) fun b H=>.ok (.bsl b 0 (llen l) (some (llen l))) H) (.bad [5041])) (H.new (.row (llen l)) fun g H=>.ok (.sl (.own g size) l) H)) (.bad [5042])
def okM (bytes n:Nat):Bool:=Nat.ble n 1000000000000 && Nat.ble (Nat.mul bytes n) 281474976710656
def emks (bytes:Nat) (zs:List W) (x:W) (H:Hp):Ro:=match x with
  | .int _ (.ofNat n)=>bi (okM bytes n && mk1 (List.replicate n zs).flatten) (H.new (.cells none (List.replicate n zs).flatten) fun b H=>.ok (.bsl b 0 n (some n)) H) (.bad [5043])
  | _=>.bad [5044]
def emko (hint:Bool) (size bytes:Nat) (zs:List W) (x:W) (H:Hp):Ro:=match x with
  | .int _ (.ofNat n)=>bi (okM bytes n) (bi hint (bi (mk1 (List.replicate n zs).flatten) (H.new (.cells none (List.replicate n zs).flatten) fun b H=>.ok (.bsl b 0 0 (some n)) H) (.bad [5041])) (H.new (.row 0) fun g H=>.ok (.sl (.own g size) []) H)) (.bad [5043])
  | _=>.bad [5044]
def estB (n b o:Nat) (q:Option (Nat × Nat)) (ys cs:List W) (H:Hp):Ro:=bi (Nat.beq (llen ys) n) (bi (Nat.beq n 0) (.bad []) (oe (esplice cs o ys) (.bad []) fun r=>bi (mk1 r) (H.put b (.cells q r) fun H=>.ok .und H) (.bad [5041]))) (.bad [])
def estore (n:Nat) (x y:W) (H:Hp):Ro:=wP x (.bad [5011]) fun b o=>xC (H.get b) (.bad [5010]) fun q cs=>estB n b o q y.cells cs H
def ecalv (call:Cl) (x:W) (l:List W) (H:Hp):Ro:=match x with
  | .func f first cap=>call f (first ++ (l ++ cap)) H
  | _=>.bad [5012]
def einv (meth:TypeId→String→Option FuncId) (call:Cl) (name:String) (x:W) (l:List W) (H:Hp):Ro:=match x with
  | .iface t w=>match meth t name with
    | some f=>call f (w :: l) H
    | none=>.bad [5013]
  | _=>.bad [5014]
def emup (ag:Bool) (lf:List Lf) (x k v:W) (H:Hp):Ro:=match x with
  | .map b=>match H.get b with
    | .mp ag' lf' es c=>bi (mkOk ag ag' lf lf' k) (H.put b (.mp ag lf (emset lf k v c es) (match emfind lf k es with | some _=>c | none=>Nat.succ c)) fun H=>.ok .und H) (.bad [])
    | _=>.bad []
  | _=>.bad []
def emdelR (ag:Bool) (lf:List Lf) (x k:W) (H:Hp):Ro:=match x with
  | .nilm=>bi (ekOk ag lf k) (.ok (.tup []) H) (.bad [])
  | .map b=>match H.get b with
    | .mp ag' lf' es c=>bi (mkOk ag ag' lf lf' k) (H.put b (.mp ag lf (emdel lf k es) c) fun H=>.ok (.tup []) H) (.bad [])
    | _=>.bad []
  | _=>.bad []
def erng (x:W) (H:Hp):Ro:=match x with
  | .nilm=>H.new (.it none 0 [] 0) fun r H=>.ok (.ptr r 0) H
  | .map b=>match H.get b with
    | .mp _ _ _ c=>H.new (.it (some b) c [] c) fun r H=>.ok (.ptr r 0) H
    | _=>.bad []
  | _=>.bad []
def enxt (x:W) (H:Hp):Ro:=match x with
  | .ptr r 0=>match H.get r with
    | .it none _ _ _=>.ok (.tup [.bool false]) H
    | .it (some m) since seen last=>match H.get m with
      | .mp _ _ es c=>bi (allB since es && Nat.ble since last) (match eunseen seen es with
        | []=>.ok (.tup [.bool false]) H
        | [e]=>H.put r (.it (some m) since (seen ++ [e.2.2]) c) fun H=>.ok (.tup [.bool true,e.1,e.2.1]) H
        | _=>.bad [5020]) (.bad [])
      | _=>.bad []
    | _=>.bad []
  | _=>.bad []
def erngS (x:W) (H:Hp):Ro:=match x with
  | .str l=>H.new (.si l 0) fun r H=>.ok (.ptr r 0) H
  | _=>.bad [5050]
def enxtS (x:W) (H:Hp):Ro:=match x with
  | .ptr r 0=>match H.get r with
    | .si l pos=>match lget l pos with
      | none=>.ok (.tup [.bool false]) H
      | some (.ofNat c)=>bi (Nat.ble c 127) (H.put r (.si l (Nat.succ pos)) fun H=>.ok (.tup [.bool true,.int .i64 (.ofNat pos),.int .i32 (.ofNat c)]) H) (.bad [5051])
      | _=>.bad [5052]
    | _=>.bad [5053]
  | _=>.bad [5054]
def eclrm (x:W) (H:Hp):Ro:=match x with
  | .nilm=>.ok (.tup []) H
  | .map b=>match H.get b with
    | .mp ag lf _ c=>H.put b (.mp ag lf [] c) fun H=>.ok (.tup []) H
    | _=>.bad [5055]
  | _=>.bad [5056]
def ement (ag:Bool) (lf:List Lf) (z x k:W) (H:Hp):Ro:=match x with
  | .map b=>match H.get b with
    | .mp ag' lf' es c=>bi (mkOk ag ag' lf lf' k) (match emfind lf k es with
      | some r=>H.put b (.mp ag lf (emset lf k r.1 c es) c) fun H=>.ok (.tup [r.1,.int .i64 (.ofNat r.2)]) H
      | none=>H.put b (.mp ag lf (emset lf k z c es) (Nat.succ c)) fun H=>.ok (.tup [z,.int .i64 (.ofNat c)]) H) (.bad [])
    | _=>.bad []
  | _=>.bad []
def eest (x s v:W) (H:Hp):Ro:=match x,s with
  | .map b,.int .i64 (.ofNat n)=>match H.get b with
    | .mp ag lf es c=>match eborn n es with
      | some _=>H.put b (.mp ag lf (emstamp n v es) c) fun H=>.ok .und H
      | none=>.bad []
    | _=>.bad []
  | _,_=>.bad []
def eclr (size:Nat) (zs:List W) (x:W) (H:Hp):Ro:=match x with
  | .sl _ []=>.ok (.tup []) H
  | .bsl b o n _=>match H.get b with
    | .cells q cs=>match esplice cs o (List.replicate n zs).flatten with
      | some r=>bi (Nat.beq (llen zs) size && mk1 r) (H.put b (.cells q r) fun H=>.ok (.tup []) H) (.bad [5041])
      | none=>.bad []
    | _=>.bad []
  | _=>.bad []
def ecpy (size:Nat) (x y:W) (H:Hp):Ro:=match x,y with
  | .bsl b o n _,.bsl b2 o2 m _=>match H.get b,H.get b2 with
    | .cells q cs,.cells _ ds=>bi (Nat.ble (Nat.add o (Nat.mul n size)) (llen cs) && Nat.ble (Nat.add o2 (Nat.mul m size)) (llen ds)) (match esplice cs o (ltake (ldrop ds o2) (Nat.mul (cond (Nat.ble m n) m n) size)) with
      | some r=>bi (mk1 r) (H.put b (.cells q r) fun H=>.ok (.int .i64 (.ofNat (cond (Nat.ble m n) m n))) H) (.bad [5041])
      | none=>.bad []) (.bad [])
    | _,_=>.bad []
  | _,_=>.bad []
def cO (meth:TypeId→String→Option FuncId) (hint:Bool):VOp→OB
  | .mv x=>⟨fun _ A H=>.ok ((cX x).f A) H⟩
  | .pick c a b=>⟨fun _ A H=>Ro.of (epickB ((cX a).f A) ((cX b).f A) ((cX c).f A)) H⟩
  | .bin op x y=>q2 (cBin op).f x y
  | .binZ op x y=>q2 (eBinZ op) x y
  | .un op x=>q1 (eun op) x
  | .binb neg x y=>q2 (ebinb neg) x y
  | .eqs neg l x y=>q2 (eeqs neg l) x y
  | .isnil neg x=>q1 (eisnil neg) x
  | .pnil neg x=>q1 (epnil neg) x
  | .b2s x=>q1 eb2s x
  | .s2b x=>q1 es2b x
  | .b2sB x=>h1 eb2sB x
  | .s2a n size x=>h1 (fun H=>es2a H n size) x
  | .slcA n size x lo hi=>⟨fun _ A H=>Ro.of (eslcA n size (some ((cX x).f A)) (oB A lo) (oB A hi)) H⟩
  | .sidx x i=>q2 esidx x i
  | .aidx len x i=>q2 (eaidx len) x i
  | .aidxn len size x i=>q2 (eaidxn len size) x i
  | .mki t x=>q1 (emki t) x
  | .fv off size x=>q1 (efv off size) x
  | .conv k x=>q1 (econv k) x
  | .fld off x=>q1 (efld off) x
  | .ix size x i=>q2 (eix size) x i
  | .ixa n size x i=>q2 (eixa n size) x i
  | .load n x=>h1 (fun H=>eload H n) x
  | .nilck x=>q1 enilck x
  | .ext x i=>q1 (eext i) x
  | .len x=>q1 elen x
  | .slen x=>q1 eslen x
  | .mn x y=>q2 (emm false) x y
  | .mx x y=>q2 (emm true) x y
  | .bld zero parts=>⟨fun _ A H=>Ro.of (ebld (ofCs zero) (oP A parts)) H⟩
  | .bsl size xs=>⟨fun _ A H=>Ro.of (ebsl size ((oM A xs).map wstrip)) H⟩
  | .slc size x lo hi=>⟨fun _ A H=>Ro.of (eslcO size (some ((cX x).f A)) (oB A lo) (oB A hi)) H⟩
  | .sslc x lo hi=>⟨fun _ A H=>Ro.of (esslc (some ((cX x).f A)) (oB A lo) (oB A hi)) H⟩
  | .mlk ag lf z ok x k=>h2 (fun H=>emlk H ag lf (ofV z) ok) x k
  | .mlen x=>h1 emlen x
  | .mnil neg x=>q1 (emnil neg) x
  | .inil neg x=>q1 (einil neg) x
  | .ent x=>h1 eent x
  | .mfn (.func f) first cap=>⟨fun _ A H=>Ro.of (emfn f (oM A first) (oM A cap)) H⟩
  | .slc3 size x lo hi mx=>⟨fun _ A H=>Ro.of (eslc3 size (some ((cX x).f A)) (oB A lo) (some ((cX hi).f A)) (some ((cX mx).f A))) H⟩
  | .box x | .boxX x=>⟨fun _ A H=>ebox ((cX x).f A) H⟩
  | .alc z | .alcX z=>⟨fun _ _ H=>ealc (ofCs z) H⟩
  | .bslo size xs=>⟨fun _ A H=>ebslo hint size ((oM A xs).map wstrip) H⟩
  | .mks _ bytes z x=>⟨fun _ A H=>emks bytes (ofCs z) ((cX x).f A) H⟩
  | .mko size bytes z x=>⟨fun _ A H=>emko hint size bytes (ofCs z) ((cX x).f A) H⟩
  | .store n x y=>⟨fun _ A H=>estore n ((cX x).f A) ((cX y).f A) H⟩
  | .app size bytes x y=>cond hint ⟨fun _ A H=>eappH size bytes ((cX x).f A) ((cX y).f A) H⟩ ⟨fun _ A H=>eappS size bytes ((cX x).f A) ((cX y).f A) H⟩
  | .appx size bytes z x y=>⟨fun _ A H=>eappx z size bytes ((cX x).f A) ((cX y).f A) H⟩
  | .call f args=>⟨fun call A H=>call f (oM A args) H⟩
  | .calv x args=>⟨fun call A H=>ecalv call ((cX x).f A) (oM A args) H⟩
  | .inv name x args=>⟨fun call A H=>einv meth call name ((cX x).f A) (oM A args) H⟩
  | .mkm ag lf=>⟨fun _ _ H=>H.new (.mp ag lf [] 0) fun b H=>.ok (.map b) H⟩
  | .mup ag lf x k v=>⟨fun _ A H=>emup ag lf ((cX x).f A) ((cX k).f A) ((cX v).f A) H⟩
  | .mdel ag lf x k=>⟨fun _ A H=>emdelR ag lf ((cX x).f A) ((cX k).f A) H⟩
  | .rng x=>⟨fun _ A H=>erng ((cX x).f A) H⟩
  | .nxt x=>⟨fun _ A H=>enxt ((cX x).f A) H⟩
  | .rngS x=>⟨fun _ A H=>erngS ((cX x).f A) H⟩
  | .nxtS x=>⟨fun _ A H=>enxtS ((cX x).f A) H⟩
  | .clrm x=>⟨fun _ A H=>eclrm ((cX x).f A) H⟩
  | .ment ag lf z x k=>⟨fun _ A H=>ement ag lf (ofV z) ((cX x).f A) ((cX k).f A) H⟩
  | .est x s v=>⟨fun _ A H=>eest ((cX x).f A) ((cX s).f A) ((cX v).f A) H⟩
  | .clr size z x=>⟨fun _ A H=>eclr size (ofCs z) ((cX x).f A) H⟩
  | .cpy size x y=>⟨fun _ A H=>ecpy size ((cX x).f A) ((cX y).f A) H⟩
  | _=>⟨fun _ _ _=>.bad [6000]⟩
inductive Rs where
  | ok (e:VEx) (A:En) (H:Hp)
  | bad (c:List Nat)
structure CB where
  f:Cl→En→Hp→Rs
def tksame:Tk→Tk→Bool
  | .no,.no | .nil,.nil | .nn,.nn | .full,.full=>true
  | .own a b,.own c d=>Nat.beq a c && Nat.beq b d
  | _,_=>false
def lsame (f:W→W→Bool):List W→List W→Bool
  | [],[]=>true
  | a :: l,b :: m=>f a b && lsame f l m
  | _,_=>false
def wsame1 (ih:W→W→Bool):W→W→Bool
  | .int k a,.int k' b=>keq k k' && ieq a b
  | .bool a,.bool b=>beqb a b
  | .nilp,.nilp=>true
  | .nilm,.nilm=>true
  | .nili,.nili=>true
  | .nilf,.nilf=>true
  | .ptr a b,.ptr c d=>Nat.beq a c && Nat.beq b d
  | .map a,.map b=>Nat.beq a b
  | .str a,.str b=>leq a b
  | .sl t l,.sl t' m=>tksame t t' && lsame ih l m
  | .osl a b c,.osl a' b' c'=>Nat.beq a a' && Nat.beq b b' && Nat.beq c c'
  | .bsl a b c (some d),.bsl a' b' c' (some d')=>Nat.beq a a' && Nat.beq b b' && Nat.beq c c' && Nat.beq d d'
  | .iface t w,.iface t' w'=>Nat.beq t t' && ih w w'
  | .agg l,.agg m=>lsame ih l m
  | .ep l o,.ep m o'=>Nat.beq o o' && lsame ih l m
  | .sy k i j m s _,.sy k' i' j' m' s' _=>keq k k' && Nat.beq i i' && Nat.beq j j' && Nat.beq m m' && Nat.beq s s'
  | _,_=>false
def wsame:Nat→W→W→Bool
  | 0=>fun _ _=>false
  | n + 1=>wsame1 (wsame n)
def eobs1 (H:Hp) (n:Option Nat) (v x:W):Bool:=match v with
  | .und=>true
  | v=>match eload H n x with
    | some w=>wsame 9 v w
    | none=>false
def eobs (A:En) (H:Hp):List (Option Nat × X × Nat)→Bool
  | []=>true
  | (n,x,d) :: rest=>eobs1 H n ((cX (.t d)).f A) ((cX x).f A) && eobs A H rest
structure PB where
  f:En→W→(En→Rs)→Rs
def cP:Option Nat→PB
  | none=>⟨fun A _ k=>k A⟩
  | some d=>⟨fun A w k=>(cS d).f A w k⟩
def code (d:Option Nat):Nat:=match d with | some d=>d | none=>9999
def eput (d:Option Nat) (A:En) (r:Ro) (k:En→Hp→Rs):Rs :=
  roE r (fun c=>.bad (code d :: c)) fun w H=>(cP d).f A w fun A=>k A H
def eputO (d:Option Nat) (obs:List (Option Nat × X × Nat)) (A:En) (r:Ro) (k:En→Hp→Rs):Rs :=
  roE r (fun c=>.bad (code d :: c)) fun w H=>bi (eobs A H obs) ((cP d).f A w fun A=>k A H) (.bad [code d,8888])
structure PO where
  f:En→Ro→(En→Hp→Rs)→Rs
def cPO (d:Option Nat) (obs:List (Option Nat × X × Nat)):PO:=match obs with
  | []=>⟨eput d⟩
  | obs=>⟨eputO d obs⟩
def egrd (w:W) (want:Bool) (a b:Unit→Rs):Rs :=
  W.rec (motive_1:=fun _=>Rs) (motive_2:=fun _=>Unit) (b ()) (.bad []) (fun _ _=>.bad []) (fun t=>bi t (bi want (a ()) (b ())) (bi want (b ()) (a ()))) (fun _=>.bad []) (.bad []) (fun _ _=>.bad []) (fun _ _ _=>.bad []) (fun _ _ _=>.bad []) (fun _ _ _ _=>.bad []) (fun _ _ _=>.bad []) (.bad []) (fun _=>.bad []) (.bad []) (fun _ _ _=>.bad []) (.bad []) (fun _ _ _ _ _=>.bad []) (fun _ _=>.bad []) (fun _ _=>.bad []) (fun _ _ _ _ _ _=>.bad []) (fun _=>.bad []) (fun _ _=>.bad []) () (fun _ _ _ _=>()) w
def cOs (meth:TypeId→String→Option FuncId) (hint:Hint):List VO→CB
  | []=>⟨fun _ A H=>.ok .normal A H⟩
  | o :: rest=>match o.g with
    | none=>⟨fun call A H=>(cPO o.dst o.obs).f A ((cO meth (hint (code o.dst)) o.op).f call A H) ((cOs meth hint rest).f call)⟩
    | some (s,want)=>⟨fun call A H=>egrd ((cX (.t s)).f A) want (fun _=>(cPO o.dst o.obs).f A ((cO meth (hint (code o.dst)) o.op).f call A H) ((cOs meth hint rest).f call)) fun _=>(cP o.dst).f A .und fun A=>(cOs meth hint rest).f call A H⟩
def rsE {β:Type} (r:Rs) (b:List Nat→β) (f:VEx→En→Hp→β):β:=Rs.rec (motive:=fun _=>β) f b r
def eseq (r:Rs) (k:En→Hp→Rs):Rs:=rsE r .bad fun e A H=>VEx.rec (motive:=fun _=>Rs) (k A H) (fun i=>.ok (.exit i) A H) (.ok .ret A H) e
def eblk (id:Nat) (r:Rs):Rs:=rsE r .bad fun e A H=>VEx.rec (motive:=fun _=>Rs) (.ok .normal A H) (fun i=>bi (Nat.beq i id) (.ok .normal A H) (.ok (.exit i) A H)) (.ok .ret A H) e
def econd (w:W) (a b:Unit→Rs):Rs:=wB w (.bad [6003]) fun t=>bi t (a ()) (b ())
def eloopB (f:En→Hp→Rs) (n:Nat):En→Hp→Rs :=
  Nat.rec (motive:=fun _=>En→Hp→Rs) f (fun _ ih A H=>eseq (ih A H) ih) n
def eloop (f:En→Hp→Rs) (A:En) (H:Hp):Rs:=eseq (eloopB f 17 A H) fun _ _=>.bad [6004]
def cC (meth:TypeId→String→Option FuncId) (hint:Hint):VC→CB
  | .skip=>⟨fun _ A H=>.ok .normal A H⟩
  | .reg ops=>cOs meth hint ops
  | .seq a b=>⟨fun call A H=>eseq ((cC meth hint a).f call A H) ((cC meth hint b).f call)⟩
  | .cond c a b=>⟨fun call A H=>econd ((cX c).f A) (fun _=>(cC meth hint a).f call A H) (fun _=>(cC meth hint b).f call A H)⟩
  | .blk id c=>⟨fun call A H=>eblk id ((cC meth hint c).f call A H)⟩
  | .loop c=>⟨fun call A H=>eloop ((cC meth hint c).f call) A H⟩
  | .exit id=>⟨fun _ A H=>.ok (.exit id) A H⟩
  | .ret=>⟨fun _ A H=>.ok .ret A H⟩
def eres (H:Hp) (A:En):RV→Option W
  | .tmp t=>some ((cX (.t t)).f A)
  | .cell t n=>eload H n ((cX (.t t)).f A)
def eresL (H:Hp) (A:En):List RV→Option (List W)
  | []=>some []
  | r :: rs=>match eres H A r,eresL H A rs with
    | some a,some b=>some (a :: b)
    | _,_=>none
def eresV (H:Hp) (A:En) (rs:List RV):Ro:=match rs with
  | [r]=>Ro.of (eres H A r) H
  | rs=>match eresL H A rs with
    | some l=>.ok (.tup l) H
    | none=>.bad []
def eargs (l:List W):Nat→En→En :=
  List.rec (motive:=fun _=>Nat→En→En) (fun _ A=>A) (fun a _ ih n A=>(cS n).f A a fun A=>ih (Nat.succ n) A) l
structure Cfg where
  meth:TypeId→String→Option FuncId
  F:FuncId→Option FC
  hint:FuncId→Hint
  hk:FuncId→Option ((List W→Bool) × (List W→Hp→Ro))
structure FB where
  f:Cl→List W→Hp→Ro
def efin (rs:List RV) (r:Rs):Ro:=match r with
  | .ok e A H=>match e with
    | .exit _=>.bad [6005]
    | _=>eresV H A rs
  | .bad c=>.bad c
def cG (C:Cfg) (f:FuncId):FB:=match C.F f with
  | some F=>⟨fun call args H=>cond (Nat.ble (llen args) F.n) (efin F.res ((cC C.meth (C.hint f) F.body).f call (eargs args 0 en0) H)) (.bad [6006])⟩
  | none=>⟨fun _ _ _=>.bad [7777]⟩
def cF (C:Cfg) (f:FuncId):FB:=match C.hk f with
  | some g=>⟨fun call args H=>bi (g.1 args) (g.2 args H) ((cG C f).f call args H)⟩
  | none=>cG C f
def ewhere (f:FuncId) (r:Ro):Ro:=match r with
  | .bad c=>.bad (f :: c)
  | r=>r
def ecall (C:Cfg) (n:Nat):Cl :=
  Nat.rec (motive:=fun _=>Cl) (fun _ _ _=>.bad [7778]) (fun _ ih f args H=>ewhere f ((cF C f).f ih args H)) n
end
end Ev
end
section
open Go Go.RowKit
theorem RepW.below {w0:Fr} {G:Gh} {s:St} {w w':World} (h:RepW w0 G s w) (hb:Below w.heap.size w w'):RepW w0 G s w' where
  F b o v hf:=by
    have:=h.F b o v hf
    rw [hb.cell (p:=⟨b,o,none⟩) (World.block_lt_of_cell? _ _ this)]; exact this
  O g x hx:=by have:=h.O g x hx; have:=hb.size; omega
  box b cs hx:=by
    obtain ⟨h1,h2,h3,h4,h5⟩:=h.box b cs hx
    exact ⟨h1,h2,h3,h4,by rw [hb.block b (by have:=h.sz; omega)]; exact h5⟩
  own g m hg:=by
    obtain ⟨h1,h2,e,size,cap,cur,h3,h4,h5⟩:=h.own g m hg
    exact ⟨h1,h2,e,size,cap,cur,h3,by rw [hb.block g (by have:=h.sz; omega)]; exact h4,h5⟩
  sz:=by have:=h.sz; have:=hb.size; omega
  bel:=⟨hb.os.trans h.bel.os,hb.tape.trans h.bel.tape,hb.output.trans h.bel.output,Nat.le_trans h.bel.size hb.size,fun i hi=>(hb.block i (by have:=h.bel.size; omega)).trans (h.bel.block i hi)⟩
  fr b x hx:=⟨by rw [hb.block b (h.frLt hx)]; exact (h.fr b x hx).1,(h.fr b x hx).2⟩
inductive Frz (st:St):V→V→Prop where
  | same (d:V):Frz st d d
  | box (b o c size:Nat) (cs l:List V) (hb:st.box b=some cs) (hl:∀ (i:Nat) (d:V),l[i]?=some d→d.cells.length=size)
      (h:∀ (i:Nat) (d:V) (j:Nat) (x:V),l[i]?=some d→d.cells[j]?=some x→cs[o + i * size + j]?=some x) (hc:l.length≤c) (hm:c≤maxLen) (hmo:mono cs):Frz st (.sc (.slice (some ⟨b,o,none⟩) l.length c)) (.sl .no l)
def ghAll (G:Gh) (w:World):Gh:=⟨fun b o=>w.cell? ⟨b,o,none⟩,G.O⟩
theorem Frz.rep {st:St} {d d':V} (hf:Frz st d d') {w0:Fr} {G:Gh} {w:World} (hw:RepW w0 G st w) {v:Value} (h:Rep1 G d v):Rep1 (ghAll G w) d' v:=by
  have hle:G.le (ghAll G w):=⟨hw.F,fun g x h=>h⟩
  cases hf with
  | same d=>exact h.mono hle
  | box b o c size cs l hb hl hx hc hm hmo =>
    cases h with
    | sc _ h1 =>
    obtain ⟨vs,e,hh,hsz,hone,hrep⟩:=(hw.box b cs hb).2.2.2.2.row hmo
    have hcell:∀ k,w.cell? ⟨b,k,none⟩=vs[k]?:=fun k=>by simp [World.cell?,hh]
    have get:∀ i j,i < l.length→j < size→∃ v x,vs[o + i * size + j]?=some v∧cs[o + i * size + j]?=some x∧(∃ d,l[i]?=some d∧d.cells[j]?=some x):=fun i j hi hj=>by
      have hd:=List.getElem?_eq_getElem hi
      have hlen:=hl i _ hd
      have hjx:=List.getElem?_eq_getElem (show j < (l[i]).cells.length by omega)
      have hcs:=hx i _ j _ hd hjx
      have hlt:o + i * size + j < vs.size:=by rw [hsz]; exact (List.getElem?_eq_some_iff.1 hcs).1
      exact ⟨_,_,Array.getElem?_eq_getElem hlt,hcs,_,hd,hjx⟩
    refine .sl .no l b o size c (fun i j=>(vs[o + i * size + j]?).getD default) hl (fun i j hi hj=>?_) (fun i j hi hj=>?_) (fun i d j x hd hj=>?_) hc hm (by simp) (fun g k e=>by cases e)
    · obtain ⟨v,x,h1,_⟩:=get i j hi hj
      simp only [ghAll,hcell,h1,Option.getD_some]
    · obtain ⟨v,x,h1,_⟩:=get i j hi hj
      simp only [h1,Option.getD_some]
      exact hone _ _ h1
    · have hi:=(List.getElem?_eq_some_iff.1 hd).1
      have hjl:j < size:=by rw [← hl i d hd]; exact (List.getElem?_eq_some_iff.1 hj).1
      obtain ⟨v,x',h1,h2,_⟩:=get i j hi hjl
      have hcs:=hx i d j x hd hj
      simp only [h1,Option.getD_some]
      exact (hrep _ _ _ hcs h1).mono hle
theorem VCalls.frz {P:Program} {f:FuncId} {args args':List V} {x:Value} {st:St} (h:∀ n,VCalls P f args' ⟨fun _=>none,fun _=>none,n⟩ fun r _=>r=.sc x) (hl:args.length=args'.length)
    (hfr:∀ (i:Nat) (d d':V),args[i]?=some d→args'[i]?=some d'→Frz st d d'):VCalls P f args st fun r st'=>r=.sc x∧st=st':=by
  intro w0 G w us hw hus hr
  have hT:Tabs w:=hw.tabs
  have hw2:RepW (Fr.of w hT) (ghAll G w) ⟨fun _=>none,fun _=>none,w.heap.size⟩ w :=
    ⟨fun _ _ _ h=>h,hw.O,fun _ _ h=>(by cases h),fun _ _ h=>(by cases h),Nat.le_refl _,Below.refl _ _,fun _ _ h=>(by cases h)⟩
  refine (h w.heap.size (Fr.of w hT) (ghAll G w) w us hw2 (by omega) (fun i d' u hd' hu=>?_)).mono fun e w' ⟨u,r,st',G',h1,h2,h3,_,h5⟩=>?_
  · have hi:i < args.length:=by rw [hl]; exact (List.getElem?_eq_some_iff.1 hd').1
    have hd:=List.getElem?_eq_getElem hi
    exact (hfr i _ _ hd hd').rep hw (hr i _ u hd hu)
  · subst h2
    cases h3 with
    | sc _ h1'=>exact ⟨x,.sc x,st,G,h1,⟨rfl,rfl⟩,.sc _ h1',.refl G,hw.below h5.bel⟩
end
section
open Go Go.RowKit
section
variable {P:Program} {w0:Fr} {G:Gh} {st:St} {w:World}
def St.drop (s:St) (b:Nat):St:={ s with box:=fun x=>if x=b then none else s.box x }
theorem RepW.seal (hw:RepW w0 G st w) {b:Nat} {cs:List V} (hb:st.box b=some cs) (hmo:mono cs):∃ G',G.le G'∧RepW w0 G' (st.drop b) w∧∀ (o c size:Nat) (l:List V),(∀ (i:Nat) (d:V),l[i]?=some d→d.cells.length=size) →
    (∀ (i:Nat) (d:V) (j:Nat) (x:V),l[i]?=some d→d.cells[j]?=some x→cs[o + i * size + j]?=some x)→l.length≤c→c≤maxLen→Rep1 G' (.sl .no l) (.slice (some ⟨b,o,none⟩) l.length c):=by
  obtain ⟨hlt,hge0,hF,hO,hrb⟩:=hw.box b cs hb
  obtain ⟨cur,te,hh,hcl,hc1,hcr⟩:=hrb.row hmo
  have hle:G.le (G.addF b cur):=⟨fun b' o v hf=>by
    simp only [Gh.addF]
    split
    · rename_i e; subst e; rw [hF] at hf; cases hf
    · exact hf,fun _ _ h=>h⟩
  refine ⟨G.addF b cur,hle,⟨fun b' o v hf=>?_,hw.O,fun b' cs' hx=>?_,fun g m hg=>?_,hw.sz,hw.bel,fun c x hx=>?_⟩,fun o c size l hl hx hc hm=>?_⟩
  · simp only [Gh.addF] at hf
    split at hf
    · rename_i e; subst e; rw [cell_of_row w b' o cur te _ hh]; exact hf
    · exact hw.F b' o v hf
  · simp only [St.drop] at hx ⊢
    split at hx
    · cases hx
    · rename_i hne
      obtain ⟨k1,k2,k3,k4,k5⟩:=hw.box b' cs' hx
      exact ⟨k1,k2,fun o=>by simp only [Gh.addF]; rw [if_neg hne]; exact k3 o,k4,k5.mono hle⟩
  · obtain ⟨k1,k2,e,size,cap,cur',k3,k4,k5,k6,k7,k8⟩:=hw.own g m hg
    have hne:g ≠ b:=fun e=>by subst e; rw [hO] at k3; cases k3
    exact ⟨k1,k2,e,size,cap,cur',k3,k4,k5,k6,k7,fun o ho=>by simp only [Gh.addF]; rw [if_neg hne]; exact k8 o ho⟩
  · have hne:c ≠ b:=fun e=>by subst e; rw [hge0.2] at hx; cases hx
    exact ⟨(hw.fr c x hx).1,fun o=>by simp only [Gh.addF]; rw [if_neg hne]; exact (hw.fr c x hx).2.1 o,(hw.fr c x hx).2.2⟩
  · have get:∀ i j,i < l.length→j < size→∃ v,cur[o + i * size + j]?=some v:=fun i j hi hj=>by
      have hd:=List.getElem?_eq_getElem hi
      have hlen:=hl i _ hd
      have hcs:=hx i _ j _ hd (List.getElem?_eq_getElem (show j < (l[i]).cells.length by omega))
      exact ⟨_,Array.getElem?_eq_getElem (by rw [hcl]; exact (List.getElem?_eq_some_iff.1 hcs).1)⟩
    refine .sl .no l b o size c (fun i j=>(cur[o + i * size + j]?).getD default) hl (fun i j hi hj=>?_) (fun i j hi hj=>?_) (fun i d j x hd hj=>?_) hc hm (by simp) (fun g k e=>by cases e)
    · obtain ⟨v,h1⟩:=get i j hi hj
      simp only [Gh.addF,↓reduceIte,h1,Option.getD_some]
    · obtain ⟨v,h1⟩:=get i j hi hj
      simp only [h1,Option.getD_some]
      exact hc1 _ _ h1
    · have hi:=(List.getElem?_eq_some_iff.1 hd).1
      have hjl:j < size:=by rw [← hl i d hd]; exact (List.getElem?_eq_some_iff.1 hj).1
      obtain ⟨v,h1⟩:=get i j hi hjl
      simp only [h1,Option.getD_some]
      exact (hcr _ _ _ (hx i d j x hd hj) h1).mono hle
inductive Sld (b:Nat) (cs:List V):V→V→Prop where
  | same (d:V):Sld b cs d d
  | box (o c size:Nat) (l:List V) (hl:∀ (i:Nat) (d:V),l[i]?=some d→d.cells.length=size) (hx:∀ (i:Nat) (d:V) (j:Nat) (x:V),l[i]?=some d→d.cells[j]?=some x→cs[o + i * size + j]?=some x) (hc:l.length≤c) (hm:c≤maxLen) :
      Sld b cs (.sc (.slice (some ⟨b,o,none⟩) l.length c)) (.sl .no l)
  | agg (xs ys:List V) (hl:xs.length=ys.length) (h:∀ (i:Nat) (x y:V),xs[i]?=some x→ys[i]?=some y→Sld b cs x y):Sld b cs (.agg xs) (.agg ys)
theorem Sld.rep {b:Nat} {cs:List V} {x y:V} (h:Sld b cs x y) {G':Gh} (hle:G.le G') (hb:∀ (o c size:Nat) (l:List V),(∀ (i:Nat) (d:V),l[i]?=some d→d.cells.length=size) →
    (∀ (i:Nat) (d:V) (j:Nat) (x:V),l[i]?=some d→d.cells[j]?=some x→cs[o + i * size + j]?=some x)→l.length≤c→c≤maxLen→Rep1 G' (.sl .no l) (.slice (some ⟨b,o,none⟩) l.length c)):∀ {v:Value},Rep1 G x v→Rep1 G' y v:=by
  induction h with
  | same d=>exact fun h=>h.mono hle
  | box o c size l hl hx hc hm =>
    intro v h
    cases h with
    | sc _ _=>exact hb o c size l hl hx hc hm
  | agg xs ys hl h ih =>
    intro v hv
    cases hv with
    | agg _ vs hvl h1 hr =>
    refine .agg _ vs (by rw [hvl,hl]) h1 fun i y u hy hu=>?_
    have hi:i < xs.length:=by rw [hl]; exact (List.getElem?_eq_some_iff.1 hy).1
    have hx:=List.getElem?_eq_getElem hi
    exact ih i _ y hx hy (hr i _ u hx hu)
theorem VCalls.seal {f:FuncId} {args args':List V} {Q:V→St→Prop} {b:Nat} {cs:List V} (hb:st.box b=some cs) (hmo:_root_.Go.Proofs.YtnjmddlgpcnpeaaGreat.mono cs) (h:VCalls P f args' (st.drop b) Q) (hl:args.length=args'.length) (hs:∀ (i:Nat) (d d':V),args[i]?=some d→args'[i]?=some d'→Sld b cs d d'):VCalls P f args st Q:=by
  intro w0 G w us hw hus hr
  obtain ⟨G',k1,k2,k3⟩:=hw.seal hb hmo
  refine (h w0 G' w us k2 (by omega) (fun i d' u hd' hu=>?_)).mono fun e w' ⟨u,r,st',G2,h1,h2,h3,h4,h5⟩=>⟨u,r,st',G2,h1,h2,h3,k1.trans h4,h5⟩
  have hi:i < args.length:=by rw [hl]; exact (List.getElem?_eq_some_iff.1 hd').1
  have hd:=List.getElem?_eq_getElem hi
  exact (hs i _ _ hd hd').rep k1 k3 (hr i _ u hd hu)
end
end
section
open Go
theorem ba_ext {a b:ByteArray} (h:a.data.toList=b.data.toList):a=b:=by
  cases a; cases b
  simp only [ByteArray.mk.injEq]
  exact Array.toList_inj.1 h
theorem foldl_push_list:∀ (L:List Int) (r:ByteArray),(L.foldl (fun r n=>r.push (UInt8.ofNat n.toNat)) r).data.toList=r.data.toList ++ L.map fun n=>UInt8.ofNat n.toNat
  | [],r=>by simp
  | x :: L,r=>by rw [List.foldl_cons,foldl_push_list L,List.map_cons]; simp [ByteArray.push]
theorem strOf_list (L:List Int):(strOf L).data.toList=L.map fun n=>UInt8.ofNat n.toNat:=by
  unfold strOf
  rw [foldl_push_list]
  rfl
theorem strOf_size (L:List Int):(strOf L).size=L.length:=by
  have:=congrArg List.length (strOf_list L)
  simpa using this
theorem strOf_append (L M:List Int):strOf L ++ strOf M=strOf (L ++ M):=ba_ext (by
  rw [ByteArray.data_append,Array.toList_append,strOf_list,strOf_list,strOf_list,List.map_append])
theorem bytesOf_isB (s:ByteArray):IsB (bytesOf s):=by
  intro x hx
  obtain ⟨b,_,rfl⟩:=List.mem_map.1 hx
  have:=b.toNat_lt
  omega
theorem bytesOf_strOf {L:List Int} (h:IsB L):bytesOf (strOf L)=L:=by
  unfold bytesOf
  rw [strOf_list,List.map_map]
  refine (List.map_congr_left fun x hx=>?_).trans (List.map_id _)
  obtain ⟨h0,h1⟩:=h x hx
  simp only [Function.comp,id_eq]
  rw [UInt8.toNat_ofNat']
  omega
theorem strOf_bytesOf (s:ByteArray):strOf (bytesOf s)=s:=ba_ext (by
  rw [strOf_list,bytesOf,List.map_map]
  refine (List.map_congr_left fun x _=>?_).trans (List.map_id _)
  simp [Function.comp])
theorem strOf_inj {L M:List Int} (h:IsB L) (k:IsB M):strOf L=strOf M ↔ L=M :=
  ⟨fun e=>by rw [← bytesOf_strOf h,← bytesOf_strOf k,e],fun e=>by rw [e]⟩
theorem strOf_eq_dec {L M:List Int} (h:IsB L) (k:IsB M):decide (strOf L=strOf M)=decide (L=M):=decide_eq_decide.2 (strOf_inj h k)
theorem strOf_nil:(⟨#[]⟩:ByteArray)=strOf []:=rfl
theorem strOf_ext (L:List Int) (a b:Nat):(strOf L).extract a b=strOf ((L.take b).drop a):=ba_ext (by
  rw [ByteArray.data_extract,strOf_list]
  rw [Array.toList_extract,strOf_list]
  simp only [List.extract,List.map_drop,List.map_take]
  rw [List.drop_take])
theorem byL_strOf {L:List Int} (h:IsB L):byL (strOf L)=bs L:=by
  show bs (bytesOf (strOf L))=bs L
  rw [bytesOf_strOf h]
theorem isB_one {x:Int} (h0:0≤x) (h1:x < 256):IsB [x]:=by
  intro y hy
  simp at hy
  subst hy
  exact ⟨h0,h1⟩
theorem isB_nil:IsB []:=by intro x hx; cases hx
def digs:Nat→Nat→List Int
  | 0,n=>[48 + (n:Int)]
  | k + 1,n=>if n < 10 then [48 + (n:Int)] else digs k (n / 10) ++ [48 + ((n % 10:Nat):Int)]
theorem digs_len:∀ (k n:Nat),(digs k n).length≤k + 1
  | 0,n=>by simp [digs]
  | k + 1,n=>by
    unfold digs
    split
    · simp
    · have:=digs_len k (n / 10)
      simp; omega
theorem digs_isB:∀ (k n:Nat),n < 10 ^ (k + 1)→IsB (digs k n)
  | 0,n,h=>by simp only [Nat.zero_add,Nat.pow_one] at h; exact isB_one (by omega) (by omega)
  | k + 1,n,h=>by
    unfold digs
    split
    · exact isB_one (by omega) (by omega)
    · refine (digs_isB k (n / 10) ?_).append (isB_one (by omega) (by omega))
      rw [Nat.pow_succ] at h
      omega
def digOk (c:Int):Bool:=decide (48≤c) && decide (c≤57)
def valL (L:List Int):Int:=L.foldl (fun v c=>10 * v + c - 48) 0
theorem valL_snoc (L:List Int) (c:Int):valL (L ++ [c])=10 * valL L + c - 48:=by simp [valL]
theorem valL_bound:∀ (L:List Int) (v:Int) (m:Nat),L.all digOk=true→0≤v→v < (10:Int) ^ m→0≤L.foldl (fun v c=>10 * v + c - 48) v∧L.foldl (fun v c=>10 * v + c - 48) v < (10:Int) ^ (m + L.length)
  | [],v,m,_,h0,h1=>⟨h0,h1⟩
  | c :: L,v,m,h,h0,h1=>by
    simp only [List.all_cons,Bool.and_eq_true,digOk,decide_eq_true_eq] at h
    rw [List.foldl_cons,List.length_cons,show m + (L.length + 1)=(m + 1) + L.length by omega]
    refine valL_bound L _ (m + 1) (by simpa [digOk] using h.2) (by omega) ?_
    rw [Int.pow_succ]; omega
theorem pow10_le {k:Nat} (h:k≤13):(10:Int) ^ k≤10000000000000:=by
  have h13:∀ k:Nat,k≤13→(10:Int) ^ k≤10000000000000:=by decide
  exact h13 _ h
theorem valL_le {L:List Int} (h:L.all digOk=true) (hl:L.length≤13):0≤valL L∧valL L < 10000000000000:=by
  have:=valL_bound L 0 0 h (Int.le_refl _) (by decide)
  have h2:=pow10_le hl
  rw [Nat.zero_add] at this
  exact ⟨this.1,by have:=this.2; unfold valL; omega⟩
def rdN (L:List Int):Int × Bool :=
  if 13 < L.length then (0,false) else if L.all digOk=true then (if digs 13 (valL L).toNat=L∧valL L≤1099511627776 then (valL L,true) else (0,false)) else (0,false)
def ss (LL:List (List Int)):List V:=LL.map fun L=>.sc (.string (strOf L))
theorem ss_len (LL:List (List Int)):(ss LL).length=LL.length:=by simp [ss]
theorem ss_get (LL:List (List Int)) (i:Nat):(ss LL)[i]?=(LL[i]?).map fun L=>.sc (.string (strOf L)):=by simp [ss]
theorem ss_append (A B:List (List Int)):ss A ++ ss B=ss (A ++ B):=by simp [ss]
theorem allSz_ss (LL:List (List Int)):allSz 1 (ss LL):=fun d hd=>by
  obtain ⟨x,_,rfl⟩:=List.mem_map.1 hd; rfl
def splS (c:Int) (s:List (List Int) × List Int) (x:Int):List (List Int) × List Int:=if x=c then (s.1 ++ [s.2],[]) else (s.1,s.2 ++ [x])
def splF (c:Int) (L:List Int):List (List Int) × List Int:=L.foldl (splS c) ([],[])
def splL (c:Int) (L:List Int):List (List Int):=(splF c L).1 ++ [(splF c L).2]
theorem splF_snoc (c:Int) (L:List Int) (x:Int):splF c (L ++ [x])=splS c (splF c L) x:=by simp [splF]
theorem splF_ok (c:Int):∀ (L:List Int) (s:List (List Int) × List Int),IsB L→(∀ M ∈ s.1,IsB M)→IsB s.2→(∀ M ∈ (L.foldl (splS c) s).1,IsB M)∧IsB (L.foldl (splS c) s).2
  | [],s,_,h1,h2=>⟨h1,h2⟩
  | x :: L,s,h,h1,h2=>by
    rw [List.foldl_cons]
    have hx:=h x (by simp)
    refine splF_ok c L _ (fun y hy=>h y (by simp [hy])) ?_ ?_
    · unfold splS
      split
      · intro M hM
        rcases List.mem_append.1 hM with hM | hM
        · exact h1 M hM
        · simp at hM; subst hM; exact h2
      · exact h1
    · unfold splS
      split
      · exact isB_nil
      · exact h2.append (isB_one hx.1 hx.2)
theorem splF_len (c:Int):∀ (L:List Int) (s:List (List Int) × List Int),(L.foldl (splS c) s).1.length≤s.1.length + L.length∧(L.foldl (splS c) s).2.length≤s.2.length + L.length
  | [],s=>⟨by simp,by simp⟩
  | x :: L,s=>by
    rw [List.foldl_cons]
    obtain ⟨h1,h2⟩:=splF_len c L (splS c s x)
    have:(splS c s x).1.length≤s.1.length + 1∧(splS c s x).2.length≤s.2.length + 1:=by
      unfold splS
      split
      · exact ⟨by simp,by simp⟩
      · exact ⟨by simp,by simp⟩
    simp only [List.length_cons]
    omega
theorem splL_isB {c:Int} {L:List Int} (h:IsB L):∀ M ∈ splL c L,IsB M:=by
  obtain ⟨h1,h2⟩:=splF_ok c L ([],[]) h (by intro M hM; cases hM) isB_nil
  intro M hM
  rcases List.mem_append.1 hM with hM | hM
  · exact h1 M hM
  · simp at hM; subst hM; exact h2
theorem splL_len (c:Int) (L:List Int):(splL c L).length≤L.length + 1:=by
  have:=(splF_len c L ([],[])).1
  unfold splL splF
  simp at this ⊢
  exact this
def wordsL (L:List Int):List (List Int):=(splL 32 L).filter fun M=>M ≠ []
theorem wordsL_isB {L:List Int} (h:IsB L):∀ M ∈ wordsL L,IsB M:=fun M hM=>splL_isB h M (List.mem_filter.1 hM).1
end
section
namespace Ev
open Go
theorem lget_eq {α:Type}:∀ (l:List α) (n:Nat),lget l n=l[n]?
  | [],n=>rfl
  | a :: l,0=>rfl
  | a :: l,n + 1=>(lget_eq l n).trans (by simp)
theorem ldrop_eq {α:Type}:∀ (l:List α) (n:Nat),ldrop l n=l.drop n
  | [],n=>by simp; rfl
  | a :: l,0=>rfl
  | a :: l,n + 1=>(ldrop_eq l n).trans (by simp)
theorem ltake_eq {α:Type}:∀ (l:List α) (n:Nat),ltake l n=l.take n
  | [],n=>by simp; rfl
  | a :: l,0=>rfl
  | a :: l,n + 1=>by
    show a :: ltake l n=_
    rw [ltake_eq l n]; rfl
theorem lforce_eq {α β:Type}:∀ (l:List α) (k:List α→β),lforce l k=k l
  | [],_=>rfl
  | a :: l,k=>by
    show lforce l (fun t=>k (a :: t))=_
    rw [lforce_eq l]
theorem llen_eq {α:Type}:∀ (l:List α),llen l=l.length
  | []=>rfl
  | a :: l=>by
    show Nat.succ (llen l)=_
    rw [llen_eq l]; rfl
theorem bi_t {α:Type} {x y:α}:bi true x y=x:=rfl
theorem bi_f {α:Type} {x y:α}:bi false x y=y:=rfl
theorem bi_none {α:Type} {c:Bool} {x:Option α} {r:α} (h:bi c x none=some r):c=true∧x=some r:=by
  cases c
  · cases h
  · exact ⟨rfl,h⟩
theorem bi_non' {α:Type} {c:Bool} {x:Option α} {r:α} (h:bi c none x=some r):c=false∧x=some r:=by
  cases c
  · exact ⟨rfl,h⟩
  · cases h
theorem cond_none {α:Type} {c:Bool} {x:Option α} {r:α} (h:cond c x none=some r):c=true∧x=some r:=by
  cases c
  · cases h
  · exact ⟨rfl,h⟩
theorem cond_non' {α:Type} {c:Bool} {x:Option α} {r:α} (h:cond c none x=some r):c=false∧x=some r:=by
  cases c
  · exact ⟨rfl,h⟩
  · cases h
theorem oe_none {α β:Type} {o:Option α} {f:α→Option β} {r:β} (h:oe o none f=some r):∃ x,o=some x∧f x=some r:=by
  cases o
  · cases h
  · exact ⟨_,rfl,h⟩
theorem wI_some {w:W} {f:IntKind→Int→Option W} {r:W} (h:wI w none f=some r):∃ k n,w=.int k n∧f k n=some r:=by
  cases w <;> first | exact ⟨_,_,rfl,h⟩ | cases h
theorem wB_some {w:W} {f:Bool→Option W} {r:W} (h:wB w none f=some r):∃ b,w=.bool b∧f b=some r:=by
  cases w <;> first | exact ⟨_,rfl,h⟩ | cases h
theorem wS_some {w:W} {g:List Int→Option W} {f:IntKind→Int→Option W} {r:W} (h:wS w none g f=some r):(∃ k n,w=.int k n∧f k n=some r) ∨ ∃ l,w=.str l∧g l=some r:=by
  cases w <;> first | exact .inl ⟨_,_,rfl,h⟩ | exact .inr ⟨_,rfl,h⟩ | cases h
theorem ie_some {n:Int} {f:Nat→Option W} {r:W} (h:ie n f (fun _=>none)=some r):∃ m:Nat,n=m∧f m=some r:=by
  cases n
  · exact ⟨_,rfl,h⟩
  · cases h
theorem ble_dec (a b:Nat):Nat.ble a b=decide (a≤b):=by
  rw [Bool.eq_iff_iff,Nat.ble_eq,decide_eq_true_eq]
theorem beq_dec (a b:Nat):Nat.beq a b=decide (a=b):=by
  rw [Bool.eq_iff_iff,Nat.beq_eq,decide_eq_true_eq]
theorem ile_eq (a b:Int):ile a b=decide (a≤b):=by
  cases a <;> cases b
  · rename_i x y
    show Nat.ble x y=_
    rw [ble_dec,decide_eq_decide,Int.ofNat_eq_natCast,Int.ofNat_eq_natCast]; omega
  · rename_i x y
    show false=_
    rw [eq_comm,decide_eq_false_iff_not,Int.ofNat_eq_natCast]; omega
  · rename_i x y
    show true=_
    rw [eq_comm,decide_eq_true_eq,Int.ofNat_eq_natCast]; omega
  · rename_i x y
    show Nat.ble y x=_
    rw [ble_dec,decide_eq_decide]; omega
theorem ieq_eq (a b:Int):ieq a b=decide (a=b):=by
  cases a <;> cases b
  · rename_i x y
    show Nat.beq x y=_
    rw [beq_dec,decide_eq_decide,Int.ofNat_eq_natCast,Int.ofNat_eq_natCast]; omega
  · rename_i x y
    show false=_
    rw [eq_comm,decide_eq_false_iff_not,Int.ofNat_eq_natCast]; omega
  · rename_i x y
    show false=_
    rw [eq_comm,decide_eq_false_iff_not,Int.ofNat_eq_natCast]; omega
  · rename_i x y
    show Nat.beq x y=_
    rw [beq_dec,decide_eq_decide]; omega
theorem keq_eq {a b:IntKind} (h:keq a b=true):a=b:=by
  cases a <;> cases b <;> first | rfl | (exact absurd h (by decide))
theorem iadd_eq (a b:Int):iadd a b=a + b:=by
  cases a <;> cases b <;> rfl
theorem isub_eq (a b:Int):isub a b=a - b:=by
  cases a <;> cases b
  · rename_i x y
    show bi (Nat.ble y x) _ _=_
    rw [ble_dec]
    by_cases h:y≤x
    · rw [decide_eq_true h,bi_t]
      show Int.ofNat (x - y)=_
      rw [Int.ofNat_eq_natCast,Int.ofNat_eq_natCast,Int.ofNat_eq_natCast]; omega
    · rw [decide_eq_false h,bi_f]
      show Int.negSucc (y - x - 1)=_
      rw [Int.ofNat_eq_natCast,Int.ofNat_eq_natCast]; omega
  all_goals rfl
theorem cNorm_some {k:IntKind} {n:Int} {w:W} (h:(cNorm k).f n=some w):(norm k n).1∧∃ m,w=.int k m∧(norm k n).2=.sc (.int k m):=by
  have hr:∀ (lo hi:Nat) (k:IntKind),irange lo hi k n=some w→(-(lo:Int) - 1≤n∧n≤hi)∧w=.int k n:=fun lo hi k h=>by
    cases n with
    | ofNat m =>
      obtain ⟨h1,h2⟩:=bi_none (show bi (Nat.ble m hi) (iW k (.ofNat m)) none=some w from h)
      rw [ble_dec,decide_eq_true_eq] at h1
      cases h2
      rw [Int.ofNat_eq_natCast]
      exact ⟨by omega,rfl⟩
    | negSucc m =>
      obtain ⟨h1,h2⟩:=bi_none (show bi (Nat.ble m lo) (some (.int k (.negSucc m))) none=some w from h)
      rw [ble_dec,decide_eq_true_eq] at h1
      cases h2
      exact ⟨by omega,rfl⟩
  have hw:∀ (m:Nat) (k:IntKind),iwrap m k n=some w→w=.int k (n % (m:Int)):=fun m k h=>by
    cases n with
    | ofNat x=>cases h; rfl
    | negSucc x=>cases h; rfl
  cases k
  · obtain ⟨h1,rfl⟩:=hr 127 127 .i8 h
    exact ⟨by simp only [norm]; omega,_,rfl,rfl⟩
  · obtain ⟨h1,rfl⟩:=hr 32767 32767 .i16 h
    exact ⟨by simp only [norm]; omega,_,rfl,rfl⟩
  · obtain ⟨h1,rfl⟩:=hr 2147483647 2147483647 .i32 h
    exact ⟨by simp only [norm]; omega,_,rfl,rfl⟩
  · obtain ⟨h1,rfl⟩:=hr 9223372036854775807 9223372036854775807 .i64 h
    exact ⟨by simp only [norm]; omega,_,rfl,rfl⟩
  · exact ⟨trivial,_,hw 256 .u8 h,rfl⟩
  · exact ⟨trivial,_,hw 65536 .u16 h,rfl⟩
  · exact ⟨trivial,_,hw 4294967296 .u32 h,rfl⟩
  · exact ⟨trivial,_,hw 18446744073709551616 .u64 h,rfl⟩
abbrev Rn:=Nat→Option Nat
def Rn.le (a b:Rn):Prop:=∀ i x,a i=some x→b i=some x
inductive RT (ρ:Rn):Tk→Tk→Prop where
  | no:RT ρ .no .no
  | nil:RT ρ .nil .nil
  | nn:RT ρ .nn .nn
  | full:RT ρ .full .full
  | own (g k b:Nat) (h:ρ g=some b):RT ρ (.own g k) (.own b k)
def decG:Nat→Nat→List Int
  | 0,_=>[]
  | f + 1,c=>if c < 256 then [] else decG f (c / 256) ++ [((c % 256:Nat):Int)]
def decB (c:Nat):List Int:=decG c c
theorem decG_ex:∀ (n:Nat) (L:List Int),L.length=n→IsB L→∃ c,1≤c∧∀ f,c≤f→decG f c=L
  | 0,L,hl,_=>⟨1,Nat.le_refl _,fun f hf=>by
    obtain rfl:=List.eq_nil_of_length_eq_zero hl
    cases f with
    | zero=>omega
    | succ f=>rw [decG,if_pos (by omega)]⟩
  | n + 1,L,hl,hB=>by
    obtain ⟨M,x,rfl⟩:∃ M x,L=M ++ [x]:=⟨L.dropLast,L.getLast (by intro e; rw [e] at hl; cases hl),(List.dropLast_concat_getLast _).symm⟩
    obtain ⟨c,h1,h2⟩:=decG_ex n M (by simpa using hl) (fun y hy=>hB y (List.mem_append_left _ hy))
    have hx:=hB x (by simp)
    refine ⟨256 * c + x.toNat,by omega,fun f hf=>?_⟩
    cases f with
    | zero=>omega
    | succ f =>
      rw [decG,if_neg (by omega),show (256 * c + x.toNat) / 256=c by omega,h2 f (by omega),show (256 * c + x.toNat) % 256=x.toNat by omega,show ((x.toNat:Nat):Int)=x by omega]
theorem decB_ex {L:List Int} (h:IsB L):∃ c,decB c=L:=let ⟨c,_,h2⟩:=decG_ex _ L rfl h; ⟨c,h2 c (Nat.le_refl _)⟩
inductive R (ρ:Rn):W→V→Prop where
  | und:R ρ .und .und
  | any (v:V):R ρ .any v
  | int (k:IntKind) (n:Int):R ρ (.int k n) (.sc (.int k n))
  | bool (b:Bool):R ρ (.bool b) (.sc (.bool b))
  | str (l:List Int) (h:IsB l):R ρ (.str l) (.sc (.string (strOf l)))
  | nilp:R ρ .nilp (.sc (.pointer none))
  | ptr (i o b:Nat) (h:ρ i=some b):R ρ (.ptr i o) (.sc (.pointer (some ⟨b,o,none⟩)))
  | ep (cs:List W) (vs:List V) (off:Nat) (hl:cs.length=vs.length) (h:∀ (i:Nat) (c:W) (v:V),cs[i]?=some c→vs[i]?=some v→R ρ c v):R ρ (.ep cs off) (.ep vs off)
  | sl (t t':Tk) (cs:List W) (vs:List V) (ht:RT ρ t t') (hl:cs.length=vs.length) (h:∀ (i:Nat) (c:W) (v:V),cs[i]?=some c→vs[i]?=some v→R ρ c v):R ρ (.sl t cs) (.sl t' vs)
  | bsl (i o n b c':Nat) (c:Option Nat) (h:ρ i=some b) (hn:n≤c') (hc:∀ x,c=some x→x=c'):R ρ (.bsl i o n c) (.sc (.slice (some ⟨b,o,none⟩) n c'))
  | osl (i j n b c':Nat) (h:ρ i=some b) (hj:ρ j=some c') (hn:n≤c'):R ρ (.osl i j n) (.sc (.slice (some ⟨b,0,none⟩) n c'))
  | nilm:R ρ .nilm (.sc (.map none))
  | map (i b:Nat) (h:ρ i=some b):R ρ (.map i) (.sc (.map (some b)))
  | nili:R ρ .nili (.sc .nilIface)
  | iface (t:TypeId) (w:W) (v:Value) (h:R ρ w (.sc v)) (h1:v.oneCell'=true):R ρ (.iface t w) (.sc (.iface t v))
  | nilf:R ρ .nilf (.sc .nilFunc)
  | func (f:FuncId) (first cap:List W) (a b:List Value) (hl:first.length=a.length) (h:∀ (i:Nat) (c:W) (v:Value),first[i]?=some c→a[i]?=some v→R ρ c (.sc v)) (kl:cap.length=b.length) (k:∀ (i:Nat) (c:W) (v:Value),cap[i]?=some c→b[i]?=some v→R ρ c (.sc v))
      (h1:∀ v ∈ a ++ b,v.oneCell'=true):R ρ (.func f first cap) (.sc (.func (.func f) a.toArray b.toArray))
  | agg (cs:List W) (vs:List V) (hl:cs.length=vs.length) (h:∀ (i:Nat) (c:W) (v:V),cs[i]?=some c→vs[i]?=some v→R ρ c v):R ρ (.agg cs) (.agg vs)
  | tup (cs:List W) (vs:List V) (hl:cs.length=vs.length) (h:∀ (i:Nat) (c:W) (v:V),cs[i]?=some c→vs[i]?=some v→R ρ c v):R ρ (.tup cs) (.tup vs)
  | sy (k:IntKind) (i j m s:Nat) (ne:List Int) (c:Nat) (h:ρ i=some c) (hb:c < 2 ^ 32) (hn:∀ n ∈ ne,(c:Int) ≠ n):R ρ (.sy k i j m s ne) (.sc (.int k ((c / 2 ^ j % 2 ^ m * 2 ^ s:Nat):Int)))
  | opq (i c:Nat) (h:ρ i=some c) (hl:ρ (i + 2)=some (decB c).length) (hb:(decB c).length < 512):R ρ (.opq i) (.sl .no (bs (decB c)))
  | sstr (l:List W) (L:List Int) (hB:IsB L) (hl:l.length=(bs L).length) (h:∀ (i:Nat) (c:W) (v:V),l[i]?=some c→(bs L)[i]?=some v→R ρ c v):R ρ (.sstr l) (.sc (.string (strOf L)))
structure RL (ρ:Rn) (cs:List W) (vs:List V):Prop where
  len:cs.length=vs.length
  at_:∀ (i:Nat) (c:W) (v:V),cs[i]?=some c→vs[i]?=some v→R ρ c v
theorem RT.mono {ρ σ:Rn} (hle:ρ.le σ) {t t':Tk} (h:RT ρ t t'):RT σ t t':=by
  cases h with
  | no=>exact .no
  | nil=>exact .nil
  | nn=>exact .nn
  | full=>exact .full
  | own g k b h=>exact .own g k b (hle _ _ h)
theorem R.mono {ρ σ:Rn} (hle:ρ.le σ) {w:W} {v:V} (h:R ρ w v):R σ w v:=by
  induction h with
  | und=>exact .und
  | any v=>exact .any v
  | int k n=>exact .int k n
  | bool b=>exact .bool b
  | str l h=>exact .str l h
  | nilp=>exact .nilp
  | ptr i o b h=>exact .ptr i o b (hle _ _ h)
  | ep cs vs off hl _ ih=>exact .ep cs vs off hl ih
  | sl t t' cs vs ht hl _ ih=>exact .sl t t' cs vs (ht.mono hle) hl ih
  | bsl i o n b c' c h hn hc=>exact .bsl i o n b c' c (hle _ _ h) hn hc
  | osl i j n b c' h hj hn=>exact .osl i j n b c' (hle _ _ h) (hle _ _ hj) hn
  | nilm=>exact .nilm
  | map i b h=>exact .map i b (hle _ _ h)
  | nili=>exact .nili
  | iface t w v _ h1 ih=>exact .iface t w v ih h1
  | nilf=>exact .nilf
  | func f first cap a b hl _ kl _ h1 ih jh=>exact .func f first cap a b hl ih kl jh h1
  | agg cs vs hl _ ih=>exact .agg cs vs hl ih
  | tup cs vs hl _ ih=>exact .tup cs vs hl ih
  | sy k i j m s ne c h hb hn=>exact .sy k i j m s ne c (hle _ _ h) hb hn
  | opq i c h hl hb=>exact .opq i c (hle _ _ h) (hle _ _ hl) hb
  | sstr l L hB hl _ ih=>exact .sstr l L hB hl ih
theorem RL.mono {ρ σ:Rn} (hle:ρ.le σ) {l:List W} {m:List V} (h:RL ρ l m):RL σ l m:=⟨h.len,fun i c v hc hv=>(h.at_ i c v hc hv).mono hle⟩
section
variable {ρ:Rn} {l l':List W} {m m':List V} {a:W} {b:V}
theorem RL.nil:RL ρ [] []:=⟨rfl,fun i c v h=>by simp at h⟩
theorem RL.nil_inv (h:RL ρ [] m):m=[]:=List.eq_nil_of_length_eq_zero h.len.symm
theorem RL.cons (h:R ρ a b) (t:RL ρ l m):RL ρ (a :: l) (b :: m):=⟨by simp [t.len],fun i c v hc hv=>by
  cases i with
  | zero=>simp at hc hv; subst hc; subst hv; exact h
  | succ i=>exact t.at_ i c v (by simpa using hc) (by simpa using hv)⟩
theorem RL.cons_inv (h:RL ρ (a :: l) m):∃ b m',m=b :: m'∧R ρ a b∧RL ρ l m':=by
  cases m with
  | nil=>have:=h.len; simp at this
  | cons b m'=>exact ⟨b,m',rfl,h.at_ 0 a b rfl rfl,by have:=h.len; simpa using this,fun i c v hc hv=>h.at_ (i + 1) c v (by simpa using hc) (by simpa using hv)⟩
theorem RL.append (h:RL ρ l m) (k:RL ρ l' m'):RL ρ (l ++ l') (m ++ m'):=⟨by simp [h.len,k.len],fun i c v hc hv=>by
  rw [List.getElem?_append] at hc hv
  have:=h.len
  split at hc
  · rw [if_pos (by omega)] at hv; exact h.at_ i c v hc hv
  · rw [if_neg (by omega)] at hv; exact k.at_ _ c v hc (by rw [this]; exact hv)⟩
theorem RL.drop (h:RL ρ l m) (n:Nat):RL ρ (l.drop n) (m.drop n):=⟨by simp [h.len],fun i c v hc hv=>by
  rw [List.getElem?_drop] at hc hv; exact h.at_ _ c v hc hv⟩
theorem RL.take (h:RL ρ l m) (n:Nat):RL ρ (l.take n) (m.take n):=⟨by simp [h.len],fun i c v hc hv=>by
  rw [List.getElem?_take] at hc hv
  split at hc
  · rename_i hi; rw [if_pos hi] at hv; exact h.at_ _ c v hc hv
  · cases hc⟩
theorem RL.get (h:RL ρ l m) {n:Nat} (ha:l[n]?=some a):∃ b,m[n]?=some b∧R ρ a b:=by
  have hn:n < m.length:=by rw [← h.len]; exact (List.getElem?_eq_some_iff.1 ha).1
  exact ⟨_,List.getElem?_eq_getElem hn,h.at_ n a _ ha (List.getElem?_eq_getElem hn)⟩
theorem RL.rep (h:R ρ a b) (n:Nat):RL ρ (List.replicate n a) (List.replicate n b):=⟨by simp,fun i c v hc hv=>by
  rw [List.getElem?_replicate] at hc hv
  split at hc
  · rename_i hi; rw [if_pos hi] at hv; cases hc; cases hv; exact h
  · cases hc⟩
theorem R.cells (h:R ρ a b) (hne:a ≠ .any):RL ρ a.cells b.cells:=by
  have one:∀ {x y},R ρ x y→RL ρ [x] [y]:=fun h=>.cons h .nil
  cases h with
  | any=>exact absurd rfl hne
  | und=>exact .nil
  | agg cs vs hl h=>exact ⟨hl,h⟩
  | tup cs vs hl h=>exact .nil
  | int k n=>exact one (.int k n)
  | bool b=>exact one (.bool b)
  | str l h=>exact one (.str l h)
  | nilp=>exact one .nilp
  | ptr i o b h=>exact one (.ptr i o b h)
  | ep cs vs off hl h=>exact one (.ep cs vs off hl h)
  | sl t t' cs vs ht hl h=>exact one (.sl t t' cs vs ht hl h)
  | bsl i o n b c' c h hn hc=>exact one (.bsl i o n b c' c h hn hc)
  | osl i j n b c' h hj hn=>exact one (.osl i j n b c' h hj hn)
  | nilm=>exact one .nilm
  | map i b h=>exact one (.map i b h)
  | nili=>exact one .nili
  | iface t w v h h1=>exact one (.iface t w v h h1)
  | nilf=>exact one .nilf
  | func f first cap a b hl h kl k h1=>exact one (.func f first cap a b hl h kl k h1)
  | sy k i j m s ne c h hb hn=>exact one (.sy k i j m s ne c h hb hn)
  | opq i c h hl hb=>exact one (.opq i c h hl hb)
  | sstr l L hB hl h=>exact one (.sstr l L hB hl h)
theorem R.cellsN (h:R ρ a b) {n:Nat} (hn:llen a.cells=n) (h0:n ≠ 0):b.cells.length=n∧RL ρ a.cells b.cells:=by
  have ha:a ≠ .any:=fun e=>by subst e; exact h0 hn.symm
  have:=h.cells ha
  rw [llen_eq] at hn
  exact ⟨by rw [← this.len,hn],this⟩
theorem R.ofC (v:V):R ρ (Ev.ofC v) v:=by
  unfold Ev.ofC
  split
  · exact .int _ _
  · exact .bool _
  · rename_i s
    have:=R.str (ρ:=ρ) (bytesOf s) (bytesOf_isB s)
    rwa [strOf_bytesOf] at this
  · exact .nilp
  · exact .nilm
  · exact .nili
  · exact .nilf
  · exact .func _ [] [] [] [] rfl (fun i c v h=>by simp at h) rfl (fun i c v h=>by simp at h) (fun v h=>by simp at h)
  · exact .sl _ _ [] [] .nil rfl (fun i c v h=>by simp at h)
  · exact .any _
theorem RL.ofCs:∀ l:List V,RL ρ (Ev.ofCs l) l
  | []=>.nil
  | c :: l=>.cons (R.ofC c) (RL.ofCs l)
theorem R.ofV (v:V):R ρ (Ev.ofV v) v:=by
  unfold Ev.ofV
  split
  · exact .und
  · have:=RL.ofCs (ρ:=ρ) (by assumption)
    exact .agg _ _ this.len this.at_
  · exact R.ofC v
end
end Ev
end
section
namespace Ev
open Go
noncomputable def md {α:Type} (d:Dg) (h:α→α) (t:N8 α):N8 α:=(up d).f t (fun y k=>k (h y)) id
theorem up_eq {α β:Type} (d:Dg) (t:N8 α) (h:α→α) (k:N8 α→β):(up d).f t (fun y k=>k (h y)) k=k (md d h t):=by
  cases t; cases d <;> rfl
theorem pj_md {α:Type} (d e:Dg) (h:α→α) (t:N8 α):(pj d).f (md e h t)=if d=e then h ((pj e).f t) else (pj d).f t:=by
  cases t; cases d <;> cases e <;> rfl
def Dg.n (d:Dg):Nat:=match d with
  | .d0=>0 | .d1=>1 | .d2=>2 | .d3=>3 | .d4=>4 | .d5=>5 | .d6=>6 | .d7=>7
theorem dg_n:∀ n:Nat,n < 8→(dg n).n=n:=by decide
theorem dg_inj {a b:Nat} (ha:a < 8) (hb:b < 8) (h:dg a=dg b):a=b:=by rw [← dg_n a ha,← dg_n b hb,h]
noncomputable def En.at (A:En) (t:Nat):W:=(cX (.t t)).f A
noncomputable def En.put (A:En) (t:Nat) (w:W):En:=(cS t).f A w id
theorem cS_eq {β:Type} (t:Nat) (A:En) (w:W) (k:En→β):(cS t).f A w k=k (A.put t w):=by
  unfold En.put cS
  cases Nat.ble 64 t
  · show (cSs _ _).f A w k=k ((cSs _ _).f A w id)
    simp only [cSs,up_eq,_root_.id]
  · cases Nat.ble 576 t
    · show (cSl _ _ _).f A w k=k ((cSl _ _ _).f A w id)
      simp only [cSl,up_eq,_root_.id]
    · rfl
theorem at_def {A:En} {t:Nat}:A.at t=(cond (Nat.ble 64 t) (cond (Nat.ble 576 t) (⟨fun _=>.any⟩:XB) (cXl (dg (Nat.div (Nat.sub t 64) 64)) (dg (Nat.mod (Nat.div t 8) 8)) (dg (Nat.mod t 8)))) (cXs (dg (Nat.div t 8)) (dg (Nat.mod t 8)))).f A:=rfl
theorem at_hi {A:En} {t:Nat} (h:576≤t):A.at t=.any:=by
  rw [at_def,ble_dec,ble_dec,decide_eq_true (by omega),decide_eq_true h]; rfl
theorem at_lo {A:En} {t:Nat} (h:t < 64):A.at t=(pj (dg (t % 8))).f ((pj (dg (t / 8))).f A.1):=by
  rw [at_def,ble_dec,decide_eq_false (by omega)]; rfl
theorem at_mid {A:En} {t:Nat} (h:64≤t) (h2:t < 576):A.at t=(pj (dg (t % 8))).f ((pj (dg (t / 8 % 8))).f ((pj (dg ((t - 64) / 64))).f A.2)):=by
  rw [at_def,ble_dec,ble_dec,decide_eq_true h,decide_eq_false (by omega)]; rfl
theorem put_lo {A:En} {t:Nat} {w:W} (h:t < 64):A.put t w=⟨md (dg (t / 8)) (md (dg (t % 8)) fun _=>w) A.1,A.2⟩:=by
  unfold En.put cS
  rw [ble_dec,decide_eq_false (by omega)]
  show (cSs _ _).f A w id=_
  simp only [cSs,up_eq,_root_.id]; rfl
theorem put_mid {A:En} {t:Nat} {w:W} (h:64≤t) (h2:t < 576):A.put t w=⟨A.1,md (dg ((t - 64) / 64)) (md (dg (t / 8 % 8)) (md (dg (t % 8)) fun _=>w)) A.2⟩:=by
  unfold En.put cS
  rw [ble_dec,ble_dec,decide_eq_true h,decide_eq_false (by omega)]
  show (cSl _ _ _).f A w id=_
  simp only [cSl,up_eq,_root_.id]; rfl
theorem put_hi {A:En} {t:Nat} {w:W} (h:576≤t):A.put t w=A:=by
  unfold En.put cS
  rw [ble_dec,ble_dec,decide_eq_true (by omega),decide_eq_true h]; rfl
theorem at_put (A:En) (t u:Nat) (w:W):(A.put t w).at u=if u=t∧t < 576 then w else A.at u:=by
  by_cases hu:576≤u
  · rw [at_hi hu,at_hi hu,if_neg (by omega)]
  by_cases ht:576≤t
  · rw [put_hi ht,if_neg (by omega)]
  by_cases h1:t < 64
  · rw [put_lo h1]
    by_cases h2:u < 64
    · rw [at_lo h2,at_lo h2]
      simp only [pj_md]
      by_cases e1:dg (u / 8)=dg (t / 8)
      · rw [if_pos e1,pj_md]
        have k1:=dg_inj (by omega) (by omega) e1
        by_cases e2:dg (u % 8)=dg (t % 8)
        · have k2:=dg_inj (by omega) (by omega) e2
          rw [if_pos e2,if_pos (by omega)]
        · rw [if_neg e2,if_neg (fun h=>e2 (by rw [h.1])),e1]
      · rw [if_neg e1,if_neg (fun h=>e1 (by rw [h.1]))]
    · rw [at_mid (by omega) (by omega),at_mid (by omega) (by omega),if_neg (by omega)]
  · rw [put_mid (by omega) (by omega)]
    by_cases h2:u < 64
    · rw [at_lo h2,at_lo h2,if_neg (by omega)]
    · rw [at_mid (by omega) (by omega),at_mid (by omega) (by omega)]
      simp only [pj_md]
      by_cases e0:dg ((u - 64) / 64)=dg ((t - 64) / 64)
      · rw [if_pos e0,pj_md]
        have k0:=dg_inj (by omega) (by omega) e0
        by_cases e1:dg (u / 8 % 8)=dg (t / 8 % 8)
        · rw [if_pos e1,pj_md]
          have k1:=dg_inj (by omega) (by omega) e1
          by_cases e2:dg (u % 8)=dg (t % 8)
          · have k2:=dg_inj (by omega) (by omega) e2
            rw [if_pos e2,if_pos (by omega)]
          · rw [if_neg e2,if_neg (fun h=>e2 (by rw [h.1])),e1,e0]
        · rw [if_neg e1,if_neg (fun h=>e1 (by rw [h.1])),e0]
      · rw [if_neg e0,if_neg (fun h=>e0 (by rw [h.1]))]
theorem pj_rep8 {α:Type} (d:Dg) (x:α):(pj d).f (rep8 x)=x:=by cases d <;> rfl
theorem at_en0 (t:Nat):en0.at t=if t < 576 then .und else .any:=by
  by_cases h:576≤t
  · rw [at_hi h,if_neg (by omega)]
  · rw [if_pos (by omega)]
    by_cases h2:t < 64
    · rw [at_lo h2]; simp only [en0,pj_rep8]
    · rw [at_mid (by omega) (by omega)]; simp only [en0,pj_rep8]
def EnR (ρ:Rn) (A:En) (A':Nat→V):Prop:=∀ t,R ρ (A.at t) (A' t)
theorem EnR.mono {ρ σ:Rn} (hle:ρ.le σ) {A:En} {A':Nat→V} (h:EnR ρ A A'):EnR σ A A':=fun t=>(h t).mono hle
theorem EnR.put {ρ:Rn} {A:En} {A':Nat→V} (h:EnR ρ A A') {d:Nat} {w:W} {v:V} (hv:R ρ w v):EnR ρ (A.put d w) (putV A' (some d) v):=fun t=>by
  rw [at_put]
  simp only [putV]
  by_cases ht:t=d
  · subst ht
    rw [if_pos rfl]
    by_cases h5:t < 576
    · rw [if_pos ⟨rfl,h5⟩]; exact hv
    · rw [if_neg (fun h=>h5 h.2),at_hi (by omega)]; exact .any _
  · rw [if_neg ht,if_neg (fun h=>ht h.1)]; exact h t
theorem EnR.ev {ρ:Rn} {A:En} {A':Nat→V} (h:EnR ρ A A') (x:X):R ρ ((cX x).f A) (x.ev A'):=by
  cases x with
  | t n=>exact h n
  | c v=>exact R.ofV v
noncomputable def set6' (p:Pl) (t:T6 Bx) (x:Bx):T6 Bx:=md p.1 (md p.2 (md p.3 (md p.4 (md p.5 (md p.6 fun _=>x))))) t
theorem set6_eq {β:Type} (p:Pl) (t:T6 Bx) (x:Bx) (k:T6 Bx→β):set6 p t x k=k (set6' p t x):=by
  simp only [set6,up_eq]; rfl
theorem get6_set6 (p q:Pl) (t:T6 Bx) (x:Bx):get6 p (set6' q t x)=if p=q then x else get6 p t:=by
  obtain ⟨a,b,c,d,e,f⟩:=p
  obtain ⟨a',b',c',d',e',f'⟩:=q
  simp only [get6,set6',pj_md]
  by_cases h1:a=a'
  · subst h1; rw [if_pos rfl,pj_md]
    by_cases h2:b=b'
    · subst h2; rw [if_pos rfl,pj_md]
      by_cases h3:c=c'
      · subst h3; rw [if_pos rfl,pj_md]
        by_cases h4:d=d'
        · subst h4; rw [if_pos rfl,pj_md]
          by_cases h5:e=e'
          · subst h5; rw [if_pos rfl,pj_md]
            by_cases h6:f=f'
            · subst h6; rw [if_pos rfl,if_pos rfl]
            · rw [if_neg h6,if_neg (fun h=>h6 (by cases h; rfl))]
          · rw [if_neg h5,if_neg (fun h=>h5 (by cases h; rfl))]
        · rw [if_neg h4,if_neg (fun h=>h4 (by cases h; rfl))]
      · rw [if_neg h3,if_neg (fun h=>h3 (by cases h; rfl))]
    · rw [if_neg h2,if_neg (fun h=>h2 (by cases h; rfl))]
  · rw [if_neg h1,if_neg (fun h=>h1 (by cases h; rfl))]
theorem pl_inj {i j:Nat} (hi:i < 262144) (hj:j < 262144) (h:pl i=pl j):i=j:=by
  simp only [pl,Pl.mk.injEq] at h
  obtain ⟨h1,h2,h3,h4,h5,h6⟩:=h
  have k1:=dg_inj (a:=i / 32768) (b:=j / 32768) (by omega) (by omega) h1
  have k2:=dg_inj (a:=i / 4096 % 8) (b:=j / 4096 % 8) (by omega) (by omega) h2
  have k3:=dg_inj (a:=i / 512 % 8) (b:=j / 512 % 8) (by omega) (by omega) h3
  have k4:=dg_inj (a:=i / 64 % 8) (b:=j / 64 % 8) (by omega) (by omega) h4
  have k5:=dg_inj (a:=i / 8 % 8) (b:=j / 8 % 8) (by omega) (by omega) h5
  have k6:=dg_inj (a:=i % 8) (b:=j % 8) (by omega) (by omega) h6
  omega
noncomputable def Hp.up (H:Hp) (i:Nat) (x:Bx):Hp:=⟨set6' (pl i) H.1 x,H.2⟩
theorem Hp.put_eq {β:Type} (H:Hp) (i:Nat) (x:Bx) (k:Hp→β):H.put i x k=k (H.up i x):=by simp only [Hp.put,set6_eq]; rfl
theorem Hp.kill_eq {β:Type} (H:Hp) (i:Nat) (k:Hp→β):H.kill i k=k (H.up i .no):=by simp only [Hp.kill,set6_eq]; rfl
theorem Hp.new_some {H:Hp} {x:Bx} {k:Nat→Hp→Ro} {w:W} {H':Hp} (h:H.new x k=.ok w H'):H.2 < 262144∧k H.2 ⟨set6' (pl H.2) H.1 x,H.2 + 1⟩=.ok w H':=by
  unfold Hp.new at h
  rw [ble_dec] at h
  by_cases hb:262144≤H.2
  · rw [decide_eq_true hb] at h; cases h
  · rw [decide_eq_false hb,bi_f,set6_eq] at h
    exact ⟨by omega,h⟩
theorem get_up {H:Hp} {i j:Nat} {x:Bx} (hi:i < 262144) (hj:j < 262144):(H.up i x).get j=if j=i then x else H.get j:=by
  simp only [Hp.get,Hp.up,get6_set6]
  by_cases h:j=i
  · rw [if_pos h,if_pos (by rw [h])]
  · rw [if_neg h,if_neg (fun e=>h (pl_inj hj hi e))]
structure RE (ρ:Rn) (es:Es) (es':List (V × V × Nat)):Prop where
  len:es.length=es'.length
  at_:∀ (i:Nat) (e:W × W × Nat) (e':V × V × Nat),es[i]?=some e→es'[i]?=some e'→R ρ e.1 e'.1∧R ρ e.2.1 e'.2.1∧e.2.2=e'.2.2
theorem RE.mono {ρ σ:Rn} (hle:ρ.le σ) {es:Es} {es':List (V × V × Nat)} (h:RE ρ es es'):RE σ es es':=⟨h.len,fun i e e' h1 h2=>let ⟨a,b,c⟩:=h.at_ i e e' h1 h2; ⟨a.mono hle,b.mono hle,c⟩⟩
def CapR (ρ:Rn) (n:Nat) (sp:List V):Option (Nat × Nat)→Prop
  | none=>sp=[]
  | some (size,j)=>∃ c,ρ j=some c∧n + sp.length=c * size∧c≤maxLen
theorem CapR.mono {ρ σ:Rn} (hle:ρ.le σ) {n:Nat} {sp:List V} {o:Option (Nat × Nat)} (h:CapR ρ n sp o):CapR σ n sp o:=by
  cases o with
  | none=>exact h
  | some x=>obtain ⟨c,h1,h2⟩:=h; exact ⟨c,hle _ _ h1,h2⟩
inductive RB (ρ:Rn):Bx→List V→Prop where
  | cells (o:Option (Nat × Nat)) (cs:List W) (vs sp:List V) (h:RL ρ cs vs) (hm:mono (vs ++ sp)) (he:CapR ρ vs.length sp o):RB ρ (.cells o cs) (vs ++ sp)
  | mp (ag:Bool) (lf:List Lf) (es:Es) (es':List (V × V × Nat)) (c:Nat) (h:RE ρ es es') (hk:∀ e ∈ es,ekOk ag lf e.1=true):RB ρ (.mp ag lf es c) [.mp ag lf es' c]
  | it0 (since last:Nat) (seen:List Nat):RB ρ (.it none since seen last) [.it none since seen last]
  | si (l:List Int) (pos:Nat) (h:IsB l):RB ρ (.si l pos) [.si (strOf l) pos]
  | it (i b since last:Nat) (seen:List Nat) (h:ρ i=some b):RB ρ (.it (some i) since seen last) [.it (some b) since seen last]
theorem RB.mono {ρ σ:Rn} (hle:ρ.le σ) {x:Bx} {cs:List V} (h:RB ρ x cs):RB σ x cs:=by
  cases h with
  | cells o cs vs sp h hm he=>exact .cells o cs vs sp (h.mono hle) hm (he.mono hle)
  | mp ag lf es es' c h hk=>exact .mp ag lf es es' c (h.mono hle) hk
  | it0 since last seen=>exact .it0 since last seen
  | si l pos h=>exact .si l pos h
  | it i b since last seen h=>exact .it i b since last seen (hle _ _ h)
structure S0 extends St where
  g:Nat→Option Nat
def BxR (ρ:Rn) (s0:S0) (st:St) (b:Nat):Bx→Prop
  | .no=>True
  | .row m=>s0.own b=none∧b < st.sz∧st.own b=some m
  | x=>s0.box b=none∧b < st.sz∧∃ cs,st.box b=some cs∧RB ρ x cs
def Bx.kd:Bx→Nat
  | .no=>0
  | .row _=>1
  | _=>2
structure Sim (s0:S0) (ρ:Rn) (H:Hp) (st:St):Prop where
  box0:∀ b cs,s0.box b=some cs→st.box b=some cs
  own0:∀ g m,s0.own g=some m→st.own g=some m
  sz0:s0.sz≤st.sz
  lt0:s0.Lt
  lt:st.Lt
  bx:∀ i b,ρ i=some b→BxR ρ s0 st b (H.get i)
  inj:∀ i j b,ρ i=some b→ρ j=some b→(H.get i).kd=(H.get j).kd→(H.get i).kd ≠ 0→i=j
  nx:∀ i b,ρ i=some b→i < H.2
  top:H.2≤262144
  un:∀ i,H.2≤i→i < 262144→H.get i=.no
  gh:∀ i c,s0.g i=some c→ρ i=some c
def Rn.add (ρ:Rn) (n b:Nat):Rn:=fun i=>if i=n then some b else ρ i
theorem add_self (ρ:Rn) (n b:Nat):ρ.add n b n=some b:=if_pos rfl
theorem add_ne (ρ:Rn) {n b i:Nat} (h:i ≠ n):ρ.add n b i=ρ i:=if_neg h
section
variable {s0:S0} {st:St} {ρ:Rn} {H:Hp}
theorem Sim.fresh (h:Sim s0 ρ H st):ρ H.2=none:=by
  cases hn:ρ H.2 with
  | none=>rfl
  | some b=>exact absurd (h.nx _ _ hn) (by omega)
theorem Sim.le (h:Sim s0 ρ H st) (b:Nat):ρ.le (ρ.add H.2 b):=fun i x hx=>by
  simp only [Rn.add]
  split
  · rename_i e; subst e; rw [h.fresh] at hx; cases hx
  · exact hx
theorem BxR.step {s0:S0} {st st':St} {σ:Rn} {b:Nat} {x:Bx} (hle:ρ.le σ) (hs:st.sz≤st'.sz) (h:BxR ρ s0 st b x) (ho:x.kd=1→st'.own b=st.own b) (hb:x.kd=2→st'.box b=st.box b):BxR σ s0 st' b x:=by
  cases x with
  | no=>trivial
  | row m=>exact ⟨h.1,by have:=h.2.1; omega,by rw [ho rfl]; exact h.2.2⟩
  | cells o l=>obtain ⟨h1,h2,cs,h3,h4⟩:=h; exact ⟨h1,by omega,cs,by rw [hb rfl]; exact h3,h4.mono hle⟩
  | mp ag lf es c=>obtain ⟨h1,h2,cs,h3,h4⟩:=h; exact ⟨h1,by omega,cs,by rw [hb rfl]; exact h3,h4.mono hle⟩
  | it m s l t=>obtain ⟨h1,h2,cs,h3,h4⟩:=h; exact ⟨h1,by omega,cs,by rw [hb rfl]; exact h3,h4.mono hle⟩
  | si l p=>obtain ⟨h1,h2,cs,h3,h4⟩:=h; exact ⟨h1,by omega,cs,by rw [hb rfl]; exact h3,h4.mono hle⟩
theorem BxR.low {b:Nat} {x:Bx} (h:BxR ρ s0 st b x) (hk:x.kd ≠ 0):b < st.sz:=by
  cases x with
  | no=>exact absurd rfl hk
  | row m=>exact h.2.1
  | _=>exact h.2.1
theorem Sim.newG (h:Sim s0 ρ H st) (ht:H.2 < 262144) {x:Bx} {b:Nat} {st':St} (hsz:st.sz≤st'.sz) (hl:st'.Lt) (hb0:∀ c cs,s0.box c=some cs→st'.box c=some cs) (ho0:∀ c m,s0.own c=some m→st'.own c=some m)
    (hk:∀ j c,ρ j=some c→((H.get j).kd=2→st'.box c=st.box c)∧((H.get j).kd=1→st'.own c=st.own c)) (hd:∀ j,ρ j=some b→(H.get j).kd ≠ x.kd)
    (hx:BxR (ρ.add H.2 b) s0 st' b x):Sim s0 (ρ.add H.2 b) ⟨set6' (pl H.2) H.1 x,H.2 + 1⟩ st':=by
  have hg:∀ i,i < 262144→Hp.get ⟨set6' (pl H.2) H.1 x,H.2 + 1⟩ i=if i=H.2 then x else H.get i:=fun i hi=>get_up (H:=H) ht hi
  have hr:∀ i c,ρ.add H.2 b i=some c→(i=H.2∧c=b) ∨ (i < H.2∧ρ i=some c):=fun i c e=>by
    simp only [Rn.add] at e
    split at e
    · rename_i k; cases e; exact .inl ⟨k,rfl⟩
    · exact .inr ⟨h.nx _ _ e,e⟩
  refine ⟨hb0,ho0,Nat.le_trans h.sz0 hsz,h.lt0,hl,fun i c e=>?_,fun i j c ei ej hkk h0=>?_,fun i c e=>?_,by show H.2 + 1≤_; omega,fun i hi1 hi2=>?_,fun i c e=>h.le b i c (h.gh i c e)⟩
  · rcases hr i c e with ⟨rfl,rfl⟩ | ⟨hi,e'⟩
    · rw [hg _ ht,if_pos rfl]; exact hx
    · rw [hg _ (by omega),if_neg (by omega)]
      exact (h.bx i c e').step (h.le b) hsz (fun q=>(hk i c e').2 q) (fun q=>(hk i c e').1 q)
  · rcases hr i c ei with ⟨rfl,rfl⟩ | ⟨hi,ei'⟩ <;> rcases hr j c ej with ⟨rfl,hjb⟩ | ⟨hj,ej'⟩
    · rfl
    · rw [hg _ ht,if_pos rfl] at hkk h0
      rw [hg _ (by omega),if_neg (by omega)] at hkk
      exact absurd hkk.symm (hd j ej')
    · subst hjb
      rw [hg _ (by omega),if_neg (by omega)] at hkk h0
      rw [hg _ ht,if_pos rfl] at hkk
      exact absurd hkk (hd i ei')
    · rw [hg _ (by omega),if_neg (by omega)] at hkk h0
      rw [hg _ (by omega),if_neg (by omega)] at hkk
      exact h.inj i j c ei' ej' hkk h0
  · show i < H.2 + 1
    rcases hr i c e with ⟨rfl,_⟩ | ⟨hi,_⟩ <;> omega
  · have hi1:H.2 + 1≤i:=hi1
    rw [hg i hi2,if_neg (by omega)]; exact h.un i (by omega) hi2
theorem Sim.ghost (h:Sim s0 ρ H st) (ht:H.2 < 262144) (c:Nat):Sim s0 (ρ.add H.2 c) ⟨H.1,H.2 + 1⟩ st:=by
  have hr:∀ i d,ρ.add H.2 c i=some d→i=H.2 ∨ ρ i=some d:=fun i d e=>by
    simp only [Rn.add] at e
    split at e
    · rename_i k; exact .inl k
    · exact .inr e
  have hg:∀ i,Hp.get ⟨H.1,H.2 + 1⟩ i=H.get i:=fun i=>rfl
  have h0:=h.un H.2 (Nat.le_refl _) ht
  refine ⟨h.box0,h.own0,h.sz0,h.lt0,h.lt,fun i d e=>?_,fun i j d ei ej hk hk0=>?_,fun i d e=>?_,by show H.2 + 1≤_; omega,fun i h1 h2=>h.un i (by have h1:H.2 + 1≤i:=h1; omega) h2,fun i d e=>h.le c i d (h.gh i d e)⟩
  · rw [hg]
    rcases hr i d e with rfl | e'
    · rw [h0]; trivial
    · exact (h.bx i d e').step (h.le c) (Nat.le_refl _) (fun _=>rfl) (fun _=>rfl)
  · rw [hg] at hk hk0
    rw [hg] at hk
    rcases hr i d ei with rfl | ei'
    · rw [h0] at hk0; exact absurd rfl hk0
    · rcases hr j d ej with rfl | ej'
      · rw [h0] at hk; exact absurd hk hk0
      · exact h.inj i j d ei' ej' hk hk0
  · show i < H.2 + 1
    rcases hr i d e with rfl | e'
    · omega
    · have:=h.nx i d e'; omega
theorem BxR.box {b:Nat} {x:Bx} (hk:x.kd=2):BxR ρ s0 st b x ↔ s0.box b=none∧b < st.sz∧∃ cs,st.box b=some cs∧RB ρ x cs:=by
  cases x with
  | no=>cases hk
  | row m=>cases hk
  | _=>exact Iff.rfl
theorem Sim.newBox (h:Sim s0 ρ H st) (ht:H.2 < 262144) {x:Bx} {b:Nat} {cs:List V} (hb:st.box b=none) (hk:x.kd=2) (hx:RB (ρ.add H.2 b) x cs):Sim s0 (ρ.add H.2 b) ⟨set6' (pl H.2) H.1 x,H.2 + 1⟩ (st.put b cs):=by
  have hn0:s0.box b=none:=by
    cases e:s0.box b with
    | none=>rfl
    | some c=>rw [h.box0 _ _ e] at hb; cases hb
  have hp:∀ c,c ≠ b→(st.put b cs).box c=st.box c:=fun c hc=>put_box_ne hc
  refine h.newG ht (by simp only [put_sz]; omega) h.lt.put (fun c ds hc=>?_) (fun c m hc=>h.own0 c m hc) (fun j c hj=>⟨fun q=>?_,fun _=>rfl⟩) (fun j hj hkd=>?_) ?_
  · have hne:c ≠ b:=fun e=>by subst e; rw [hn0] at hc; cases hc
    rw [hp c hne]; exact h.box0 c ds hc
  · have hne:c ≠ b:=fun e=>by
      subst e
      obtain ⟨_,_,ds,h3,_⟩:=(BxR.box q).1 (h.bx j c hj)
      rw [h3] at hb; cases hb
    exact hp c hne
  · rw [hk] at hkd
    obtain ⟨_,_,ds,h3,_⟩:=(BxR.box hkd).1 (h.bx j b hj)
    rw [h3] at hb; cases hb
  · exact (BxR.box hk).2 ⟨hn0,by simp only [put_sz]; omega,cs,put_box_same,hx⟩
theorem Sim.nobox (h:Sim s0 ρ H st) {b:Nat} (hb:st.sz≤b):st.box b=none:=by
  cases e:st.box b with
  | none=>rfl
  | some cs=>exact absurd (h.lt.box _ _ e) (by omega)
theorem Sim.newRow (h:Sim s0 ρ H st) (ht:H.2 < 262144) {m b:Nat} {st':St} (hsz:st.sz≤st'.sz) (hl:st'.Lt) (hbx:st'.box=st.box) (ho0:∀ c m,s0.own c=some m→st'.own c=some m)
    (hk:∀ j c,ρ j=some c→(H.get j).kd=1→st'.own c=st.own c) (hd:∀ j,ρ j=some b→(H.get j).kd ≠ 1) (hb:st'.own b=some m) (hn0:s0.own b=none):Sim s0 (ρ.add H.2 b) ⟨set6' (pl H.2) H.1 (.row m),H.2 + 1⟩ st' :=
  h.newG ht hsz hl (fun c ds hc=>by rw [hbx]; exact h.box0 c ds hc) ho0 (fun j c hj=>⟨fun _=>by rw [hbx],hk j c hj⟩) hd ⟨hn0,hl.own _ _ hb,hb⟩
theorem Sim.useRow (h:Sim s0 ρ H st) (ht:H.2 < 262144) {m b:Nat} (hb:st.sz≤b):Sim s0 (ρ.add H.2 b) ⟨set6' (pl H.2) H.1 (.row m),H.2 + 1⟩ (st.use b m):=by
  have hlow:∀ c,c < st.sz→(st.use b m).own c=st.own c:=fun c hc=>by simp only [St.use]; rw [if_neg (by omega)]
  have h0:=h.sz0
  refine h.newRow ht (by simp only [use_sz]; omega) h.lt.use rfl (fun c q hc=>?_) (fun j c hj q=>hlow c ((h.bx j c hj).low (by omega))) (fun j hj q=>?_) (by simp [St.use]) ?_
  · rw [hlow c (by have:=h.lt0.own c q hc; omega)]; exact h.own0 c q hc
  · have:=(h.bx j b hj).low (by omega); omega
  · cases e:s0.own b with
    | none=>rfl
    | some q=>have:=h.lt0.own _ _ e; omega
theorem Sim.upBox (h:Sim s0 ρ H st) {i b:Nat} {x:Bx} {cs:List V} (hi:ρ i=some b) (h2:(H.get i).kd=2) (hk:x.kd=2) (hx:RB ρ x cs):Sim s0 ρ (H.up i x) (st.put b cs):=by
  have hin:=h.nx i b hi
  have htop:=h.top
  have hg:∀ j,j < 262144→(H.up i x).get j=if j=i then x else H.get j:=fun j hj=>get_up (by omega) hj
  obtain ⟨hn0,hlow,ds,hds,_⟩:=(BxR.box h2).1 (h.bx i b hi)
  have hp:∀ c,c ≠ b→(st.put b cs).box c=st.box c:=fun c hc=>put_box_ne hc
  have hkd:∀ j c,ρ j=some c→((H.up i x).get j).kd=(H.get j).kd:=fun j c hj=>by
    have:=h.nx j c hj
    rw [hg j (by omega)]
    by_cases e:j=i
    · subst e; rw [if_pos rfl,hk,h2]
    · rw [if_neg e]
  refine ⟨fun c es hc=>?_,h.own0,by have:=h.sz0; simp only [put_sz]; omega,h.lt0,h.lt.put,fun j c hj=>?_,fun j k c hj hk' e0 e1=>?_,h.nx,h.top,fun j h1 h2=>by rw [hg j h2,if_neg (by have h1:H.2≤j:=h1; omega)]; exact h.un j h1 h2,h.gh⟩
  · have hne:c ≠ b:=fun e=>by subst e; rw [hn0] at hc; cases hc
    rw [hp c hne]; exact h.box0 c es hc
  · have hjn:=h.nx j c hj
    rw [hg j (by omega)]
    by_cases e:j=i
    · subst e
      rw [hi] at hj; cases hj
      rw [if_pos rfl]
      exact (BxR.box hk).2 ⟨hn0,by simp only [put_sz]; omega,cs,put_box_same,hx⟩
    · rw [if_neg e]
      refine (h.bx j c hj).step (fun _ _ q=>q) (by simp only [put_sz]; omega) (fun _=>rfl) (fun q=>hp c fun ec=>e ?_)
      subst ec
      exact h.inj j i c hj hi (by rw [q,h2]) (by omega)
  · rw [hkd j c hj] at e0 e1
    rw [hkd k c hk'] at e0
    exact h.inj j k c hj hk' e0 e1
theorem Sim.kill (h:Sim s0 ρ H st) {i b:Nat} (hi:ρ i=some b):Sim s0 ρ (H.up i .no) st:=by
  have hin:=h.nx i b hi
  have htop:=h.top
  have hg:∀ j,j < 262144→(H.up i .no).get j=if j=i then .no else H.get j:=fun j hj=>get_up (by omega) hj
  refine ⟨h.box0,h.own0,h.sz0,h.lt0,h.lt,fun j c hj=>?_,fun j k c hj hk' e0 e1=>?_,h.nx,h.top,fun j h1 h2=>by rw [hg j h2,if_neg (by have h1:H.2≤j:=h1; omega)]; exact h.un j h1 h2,h.gh⟩
  · have hjn:=h.nx j c hj
    rw [hg j (by omega)]
    by_cases e:j=i
    · rw [if_pos e]; trivial
    · rw [if_neg e]; exact h.bx j c hj
  · have hjn:=h.nx j c hj
    have hkn:=h.nx k c hk'
    rw [hg j (by omega)] at e0 e1
    rw [hg k (by omega)] at e0
    by_cases e:j=i
    · rw [if_pos e] at e1; exact absurd rfl e1
    · rw [if_neg e] at e0 e1
      by_cases e':k=i
      · rw [if_pos e'] at e0; exact absurd e0 e1
      · rw [if_neg e'] at e0; exact h.inj j k c hj hk' e0 e1
end
end Ev
end
section
namespace Ev
open Go
section
variable {ρ:Rn} {a b r:W} {a' b':V}
theorem iW_some {k:IntKind} {n:Int} (h:iW k n=some r):r=.int k n:=by cases h; rfl
theorem kg_some {k k':IntKind} {x:Option W} (h:kg k k' x=some r):k=k'∧x=some r:=by
  obtain ⟨h1,h2⟩:=bi_none h; exact ⟨keq_eq h1,h2⟩
theorem R.int_inv {k:IntKind} {n:Int} (h:R ρ (.int k n) a'):a'=.sc (.int k n):=by cases h; rfl
theorem R.bool_inv {x:Bool} (h:R ρ (.bool x) a'):a'=.sc (.bool x):=by cases h; rfl
theorem R.str_inv {l:List Int} (h:R ρ (.str l) a'):IsB l∧a'=.sc (.string (strOf l)):=by cases h; exact ⟨by assumption,rfl⟩
theorem wrap_nat {k:IntKind} {n v:Nat} (hk:ubits k=some n) (hv:v < 2 ^ n):k.wrap (v:Int)=v:=by
  cases k with
  | i64 =>
    cases hk
    exact IntWalk.i64_in _ ⟨by omega,by omega⟩
  | _=>simp only [ubits,Option.some.injEq,reduceCtorEq] at hk <;> subst hk <;> simp only [IntKind.wrap,IntKind.signed,IntKind.bits,Bool.false_and,Bool.false_eq_true,↓reduceIte] <;> omega
theorem ub_le {k:IntKind} {n:Nat} (hk:ubits k=some n):n≤k.bits:=by
  cases k <;> simp only [ubits,Option.some.injEq,reduceCtorEq] at hk <;> subst hk <;> simp [IntKind.bits]
theorem ofInt_nat {k:IntKind} {n x:Nat} (hk:ubits k=some n) (hx:x < 2 ^ n):(BitVec.ofInt k.bits (x:Int)).toNat=x:=by
  rw [BitVec.ofInt_natCast,BitVec.toNat_ofNat]
  exact Nat.mod_eq_of_lt (Nat.lt_of_lt_of_le hx (Nat.pow_le_pow_right (by omega) (ub_le hk)))
theorem land_eq {k:IntKind} {n x y:Nat} (hk:ubits k=some n) (hx:x < 2 ^ n) (hy:y < 2 ^ n):ibit .and k (x:Int) (y:Int)=((Nat.land x y:Nat):Int):=by
  simp only [ibit,BitVec.toNat_and,ofInt_nat hk hx,ofInt_nat hk hy]
  exact wrap_nat hk (Nat.and_lt_two_pow x hy)
theorem lor_eq {k:IntKind} {n x y:Nat} (hk:ubits k=some n) (hx:x < 2 ^ n) (hy:y < 2 ^ n):ibit .or k (x:Int) (y:Int)=((Nat.lor x y:Nat):Int):=by
  simp only [ibit,BitVec.toNat_or,ofInt_nat hk hx,ofInt_nat hk hy]
  exact wrap_nat hk (Nat.or_lt_two_pow hx hy)
theorem xor_eq {k:IntKind} {n x y:Nat} (hk:ubits k=some n) (hx:x < 2 ^ n) (hy:y < 2 ^ n):ibit .xor k (x:Int) (y:Int)=((Nat.xor x y:Nat):Int):=by
  simp only [ibit,BitVec.toNat_xor,ofInt_nat hk hx,ofInt_nat hk hy]
  exact wrap_nat hk (Nat.xor_lt_two_pow hx hy)
theorem andNot_nat {w x y:Nat} (hx:x < 2 ^ w) (hy:y < 2 ^ w):x &&& (2 ^ w - 1 - y)=x ^^^ (x &&& y):=by
  refine Nat.eq_of_testBit_eq fun j=>?_
  have e:2 ^ w - 1 - y=2 ^ w - (y + 1):=by omega
  rw [e,Nat.testBit_and,Nat.testBit_xor,Nat.testBit_and,Nat.testBit_two_pow_sub_succ hy]
  by_cases hj:j < w
  · simp only [hj,decide_true,Bool.true_and]
    cases x.testBit j <;> cases y.testBit j <;> rfl
  · have:x.testBit j=false:=Nat.testBit_lt_two_pow (Nat.lt_of_lt_of_le hx (Nat.pow_le_pow_right (by omega) (by omega)))
    simp [this]
theorem andNot_eq {k:IntKind} {n x y:Nat} (hk:ubits k=some n) (hx:x < 2 ^ n) (hy:y < 2 ^ n):ibit .andNot k (x:Int) (y:Int)=((andNot x y:Nat):Int):=by
  have hx':=Nat.lt_of_lt_of_le hx (Nat.pow_le_pow_right (show 0 < 2 by omega) (ub_le hk))
  have hy':=Nat.lt_of_lt_of_le hy (Nat.pow_le_pow_right (show 0 < 2 by omega) (ub_le hk))
  simp only [ibit,BitVec.toNat_and,BitVec.toNat_not,ofInt_nat hk hx,ofInt_nat hk hy]
  rw [andNot_nat hx' hy']
  exact wrap_nat hk (Nat.xor_lt_two_pow hx (Nat.and_lt_two_pow x hy))
theorem ebit_some {f:Nat→Nat→Nat} {k:IntKind} {x y:Int} (h:ebit f k x y=some r):∃ n u v:Nat,ubits k=some n∧x=u∧y=v∧u < 2 ^ n∧v < 2 ^ n∧r=.int k (f u v:Nat):=by
  obtain ⟨n,hn,g1⟩:=oe_none h
  obtain ⟨u,hu,g2⟩:=ie_some g1
  obtain ⟨v,hv,g3⟩:=ie_some g2
  obtain ⟨h1,g4⟩:=bi_non' g3
  obtain ⟨h2,g5⟩:=bi_non' g4
  rw [ble_dec,decide_eq_false_iff_not] at h1 h2
  exact ⟨n,u,v,hn,hu,hv,Nat.lt_of_not_le h1,Nat.lt_of_not_le h2,iW_some g5⟩
theorem leq_eq:∀ (l m:List Int),leq l m=decide (l=m)
  | [],[]=>rfl
  | [],b :: m=>rfl
  | a :: l,[]=>rfl
  | a :: l,b :: m=>by
    show (ieq a b && leq l m)=_
    rw [ieq_eq,leq_eq l m,Bool.eq_iff_iff]; simp
theorem bb_some {x:Bool} (h:bb x=some r):r=.bool x:=by cases h; rfl
theorem onII_some {f:IntKind→Int→IntKind→Int→Option W} (h:onII a b f=some r):∃ k x k' y,a=.int k x∧b=.int k' y∧f k x k' y=some r:=by
  obtain ⟨k,x,e40,g4⟩:=wI_some h; subst e40
  obtain ⟨k',y,e50,g5⟩:=wI_some g4; subst e50
  exact ⟨k,x,k',y,rfl,rfl,g5⟩
theorem onSI_some {g:List Int→List Int→Option W} {f:IntKind→Int→IntKind→Int→Option W} (h:onSI a b g f=some r):(∃ k x k' y,a=.int k x∧b=.int k' y∧f k x k' y=some r) ∨ ∃ x y,a=.str x∧b=.str y∧g x y=some r:=by
  rcases wS_some h with ⟨k,x,e,g1⟩ | ⟨x,e,g1⟩
  · obtain ⟨k',y,e2,g2⟩:=wI_some g1
    exact .inl ⟨k,x,k',y,e,e2,g2⟩
  · rcases wS_some g1 with ⟨k',y,_,g2⟩ | ⟨y,e2,g2⟩
    · cases g2
    · exact .inr ⟨x,y,e,e2,g2⟩
theorem and_t {x y:Bool} (h:(x && y)=true):x=true∧y=true:=by simpa using h
theorem ble_t {x y:Nat} (h:Nat.ble x y=true):x≤y:=Nat.ble_eq ▸ h
theorem beq_t {x y:Nat} (h:Nat.beq x y=true):x=y:=Nat.beq_eq ▸ h
theorem wI_some' {d:Option W} {f:IntKind→Int→Option W} (h:wI a d f=some r):(∃ k n,a=.int k n∧f k n=some r) ∨ d=some r:=by
  cases a <;> first | exact .inl ⟨_,_,rfl,h⟩ | exact .inr h
theorem wS_some' {d:Option W} {g:List Int→Option W} {f:IntKind→Int→Option W} (h:wS a d g f=some r):(∃ k n,a=.int k n∧f k n=some r) ∨ (∃ l,a=.str l∧g l=some r) ∨ d=some r:=by
  cases a <;> first | exact .inl ⟨_,_,rfl,h⟩ | exact .inr (.inl ⟨_,rfl,h⟩) | exact .inr (.inr h)
theorem onII2_some {d:Option W} {f:IntKind→Int→IntKind→Int→Option W} (h:onII2 a b d f=some r):onII a b f=some r ∨ d=some r:=by
  rcases wI_some' h with ⟨k,x,e,g⟩ | h
  · rcases wI_some' g with ⟨k',y,e',g'⟩ | h
    · subst e; subst e'; exact .inl g'
    · exact .inr h
  · exact .inr h
theorem onSI2_some {d:Option W} {g:List Int→List Int→Option W} {f:IntKind→Int→IntKind→Int→Option W} (h:onSI2 a b d g f=some r):onSI a b g f=some r ∨ d=some r:=by
  rcases wS_some' h with ⟨k,x,e,g1⟩ | ⟨l,e,g1⟩ | h
  · rcases wI_some' g1 with ⟨k',y,e',g'⟩ | h
    · subst e; subst e'; exact .inl g'
    · exact .inr h
  · rcases wS_some' g1 with ⟨k',y,e',g'⟩ | ⟨y,e',g'⟩ | h
    · cases g'
    · subst e; subst e'; exact .inl g'
    · exact .inr h
  · exact .inr h
theorem norm_R {k:IntKind} {n:Int} (h:(cNorm k).f n=some r):(norm k n).1∧R ρ r (norm k n).2:=by
  obtain ⟨h1,m,rfl,h2⟩:=cNorm_some h
  exact ⟨h1,by rw [h2]; exact .int k m⟩
theorem shAm_eq {k:IntKind} {s:Nat}:shAm k s=2 ^ shAmt k (s:Int):=by
  have hb:kbits k=k.bits:=by cases k <;> rfl
  simp only [shAm,shAmt,Int.toNat_natCast,ble_dec,hb]
  by_cases h:s≤k.bits
  · rw [decide_eq_true h,Nat.min_eq_left h]; rfl
  · rw [decide_eq_false h,Nat.min_eq_right (by omega)]; rfl
theorem R.sy_inv {k:IntKind} {i j m s:Nat} {ne:List Int} (h:R ρ (.sy k i j m s ne) a'):∃ c:Nat,ρ i=some c∧c < 2 ^ 32∧(∀ n ∈ ne,(c:Int) ≠ n)∧a'=.sc (.int k ((c / 2 ^ j % 2 ^ m * 2 ^ s:Nat):Int)):=by
  cases h; exact ⟨_,by assumption,by assumption,by assumption,rfl⟩
theorem wb_ub {k:IntKind} {n:Nat} (h:wbits k=some n):ubits k=some n∧k.bits=n∧kbits k=n:=by
  cases k <;> simp only [wbits,reduceCtorEq,Option.some.injEq] at h <;> subst h <;> exact ⟨rfl,rfl,rfl⟩
theorem norm_m {k:IntKind} {n:Nat} (h:wbits k=some n) (z:Int):norm k z=(True,.sc (.int k (z % (2 ^ n:Nat)))):=by
  cases k <;> simp only [wbits,reduceCtorEq,Option.some.injEq] at h <;> subst h <;> rfl
theorem norm_w {k:IntKind} {n:Nat} (h:wbits k=some n) {z:Nat} (hz:z < 2 ^ n):norm k (z:Int)=(True,.sc (.int k (z:Int))):=by
  rw [norm_m h]
  have:((z:Int) % ((2 ^ n:Nat):Int))=(z:Int):=by
    rw [← Int.natCast_emod,Nat.mod_eq_of_lt hz]
  rw [this]
theorem pow_lt {x m s n:Nat} (h:m + s≤n):x % 2 ^ m * 2 ^ s < 2 ^ n:=by
  have h1:x % 2 ^ m < 2 ^ m:=Nat.mod_lt _ (Nat.two_pow_pos m)
  have h2:x % 2 ^ m * 2 ^ s < 2 ^ m * 2 ^ s:=Nat.mul_lt_mul_of_pos_right h1 (Nat.two_pow_pos s)
  rw [← Nat.pow_add] at h2
  exact Nat.lt_of_lt_of_le h2 (Nat.pow_le_pow_right (by omega) h)
theorem syShr_R (h:syShr a b=some r) (ha:R ρ a a') (hb:R ρ b b'):(vbin .shr a' b').1∧R ρ r (vbin .shr a' b').2:=by
  unfold syShr at h
  split at h
  · rename_i k i j m ne k' s
    obtain ⟨h1,h2⟩:=bi_none h
    obtain ⟨h3,h4⟩:=and_t h1
    have h3:=ble_t h3
    have h4:=ble_t h4
    cases h2
    obtain ⟨c,hc,hb2,hn,rfl⟩:=ha.sy_inv
    have hbi:=hb.int_inv
    subst hbi
    have hk:kbits k=k.bits:=by cases k <;> rfl
    have hsh:shAmt k ((s:Nat):Int)=s:=by
      show min ((s:Nat):Int).toNat k.bits=s
      rw [Int.toNat_natCast,← hk,Nat.min_eq_left h4]
    have hv:(((c / 2 ^ j % 2 ^ m * 2 ^ 0:Nat):Int)) / 2 ^ shAmt k ((s:Nat):Int)=((c / 2 ^ (j + s) % 2 ^ (m - s) * 2 ^ 0:Nat):Int):=by
      rw [hsh,Nat.pow_zero,Nat.mul_one,Nat.mul_one]
      have e1:(2:Nat) ^ m=2 ^ s * 2 ^ (m - s):=by rw [← Nat.pow_add]; congr 1; omega
      have e2:c / 2 ^ j % 2 ^ m / 2 ^ s=c / 2 ^ (j + s) % 2 ^ (m - s):=by
        rw [e1,Nat.mod_mul_right_div_self,Nat.div_div_eq_div_mul,← Nat.pow_add]
      rw [← e2,Int.natCast_ediv,Int.natCast_pow]; rfl
    refine ⟨show (0:Int)≤((s:Nat):Int) by omega,?_⟩
    show R ρ _ (.sc (.int k (((c / 2 ^ j % 2 ^ m * 2 ^ 0:Nat):Int) / 2 ^ shAmt k ((s:Nat):Int))))
    rw [hv]
    exact .sy k i _ _ 0 ne c hc hb2 hn
  · cases h
theorem syShl_R (h:syShl a b=some r) (ha:R ρ a a') (hb:R ρ b b'):(vbin .shl a' b').1∧R ρ r (vbin .shl a' b').2:=by
  unfold syShl at h
  split at h
  · rename_i k i j m s0 ne k' s
    split at h
    · rename_i n hw
      obtain ⟨h1,h2⟩:=bi_none h
      have h3:m + s0 + s≤n:=ble_t h1
      cases h2
      obtain ⟨c,hc,hb2,hn,rfl⟩:=ha.sy_inv
      have hbi:=hb.int_inv
      subst hbi
      obtain ⟨_,hk,_⟩:=wb_ub hw
      have hsh:shAmt k ((s:Nat):Int)=s:=by
        show min ((s:Nat):Int).toNat k.bits=s
        rw [Int.toNat_natCast,hk,Nat.min_eq_left (by omega)]
      have hv:(((c / 2 ^ j % 2 ^ m * 2 ^ s0:Nat):Int)) * 2 ^ shAmt k ((s:Nat):Int)=((c / 2 ^ j % 2 ^ m * 2 ^ (s0 + s):Nat):Int):=by
        rw [hsh,Nat.pow_add,← Nat.mul_assoc,Int.natCast_mul (_ * _),Int.natCast_pow]; rfl
      have hno:=norm_w hw (pow_lt (x:=c / 2 ^ j) (m:=m) (s:=s0 + s) (by omega))
      refine ⟨⟨show (0:Int)≤((s:Nat):Int) by omega,?_⟩,?_⟩
      · show (norm k (((c / 2 ^ j % 2 ^ m * 2 ^ s0:Nat):Int) * 2 ^ shAmt k ((s:Nat):Int))).1
        rw [hv,hno]; trivial
      · show R ρ _ (norm k (((c / 2 ^ j % 2 ^ m * 2 ^ s0:Nat):Int) * 2 ^ shAmt k ((s:Nat):Int))).2
        rw [hv,hno]
        exact .sy k i _ _ _ ne c hc hb2 hn
    · cases h
  · cases h
theorem syOr_R (h:syOr a b=some r) (ha:R ρ a a') (hb:R ρ b b'):(vbin .or a' b').1∧R ρ r (vbin .or a' b').2:=by
  unfold syOr at h
  split at h
  · rename_i k k' i j m s ne
    split at h
    · rename_i n hw
      obtain ⟨h1,h2⟩:=bi_none h
      obtain ⟨h3,h4⟩:=and_t h1
      have h3:=keq_eq h3
      have h4:m + s≤n:=ble_t h4
      subst h3
      cases h2
      obtain ⟨c,hc,hb2,hn,rfl⟩:=hb.sy_inv
      have hai:=ha.int_inv
      subst hai
      refine ⟨rfl,?_⟩
      show R ρ _ (.sc (.int k (ibit .or k ((0:Nat):Int) ((c / 2 ^ j % 2 ^ m * 2 ^ s:Nat):Int))))
      rw [lor_eq (wb_ub hw).1 (Nat.two_pow_pos n) (pow_lt h4)]
      have:Nat.lor 0 (c / 2 ^ j % 2 ^ m * 2 ^ s)=c / 2 ^ j % 2 ^ m * 2 ^ s:=Nat.zero_or _
      rw [this]
      exact .sy k i _ _ _ ne c hc hb2 hn
    · cases h
  · rename_i k i j m s ne k' i' j' m' ne'
    split at h
    · rename_i n hw
      obtain ⟨h1,h2⟩:=bi_none h
      obtain ⟨h1,h7⟩:=and_t h1
      obtain ⟨h1,h6⟩:=and_t h1
      obtain ⟨h1,h5⟩:=and_t h1
      obtain ⟨h3,h4⟩:=and_t h1
      have h3:=keq_eq h3
      have h4:=beq_t h4
      have h5:=beq_t h5
      have h6:j=j' + m':=beq_t h6
      have h7:m + m'≤n:=ble_t h7
      subst h3; subst h4; subst h5; subst h6
      cases h2
      obtain ⟨c,hc,hb2,hn,rfl⟩:=ha.sy_inv
      obtain ⟨c',hc',_,_,rfl⟩:=hb.sy_inv
      rw [hc] at hc'; cases hc'
      refine ⟨rfl,?_⟩
      show R ρ _ (.sc (.int k (ibit .or k ((c / 2 ^ (j' + s) % 2 ^ m * 2 ^ s:Nat):Int) ((c / 2 ^ j' % 2 ^ s * 2 ^ 0:Nat):Int))))
      rw [lor_eq (wb_ub hw).1 (pow_lt (by omega)) (pow_lt (by omega))]
      have e:Nat.lor (c / 2 ^ (j' + s) % 2 ^ m * 2 ^ s) (c / 2 ^ j' % 2 ^ s * 2 ^ 0)=c / 2 ^ j' % 2 ^ (m + s) * 2 ^ 0:=by
        rw [Nat.pow_zero,Nat.mul_one,Nat.mul_one]
        have e1:=Nat.shiftLeft_add_eq_or_of_lt (Nat.mod_lt (c / 2 ^ j') (Nat.two_pow_pos s)) (c / 2 ^ (j' + s) % 2 ^ m)
        rw [Nat.shiftLeft_eq] at e1
        show (c / 2 ^ (j' + s) % 2 ^ m * 2 ^ s) ||| (c / 2 ^ j' % 2 ^ s)=_
        rw [← e1,Nat.pow_add 2 m s,Nat.mul_comm (2 ^ m),Nat.mod_mul,Nat.pow_add 2 j' s,← Nat.div_div_eq_div_mul,Nat.mul_comm (2 ^ s) (_ % _),Nat.add_comm]
      rw [e]
      exact .sy k i _ _ _ ne c hc hb2 hn
    · cases h
  · cases h
theorem syConv_R {k:IntKind} (h:syConv k a=some r) (ha:R ρ a a'):(vconv k a').1∧R ρ r (vconv k a').2:=by
  unfold syConv at h
  split at h
  · rename_i k0 i j m s ne
    split at h
    · rename_i n hw
      obtain ⟨c,hc,hb2,hn,rfl⟩:=ha.sy_inv
      show (norm k _).1∧R ρ r (norm k _).2
      cases hx:Nat.ble (Nat.add m s) n with
      | true =>
        rw [hx] at h
        cases h
        rw [norm_w hw (pow_lt (ble_t hx))]
        exact ⟨trivial,.sy k i _ _ _ ne c hc hb2 hn⟩
      | false =>
        rw [hx] at h
        obtain ⟨h1,h2⟩:=bi_none (show bi (Nat.beq s 0 && Nat.ble n m) (some (W.sy k i j n 0 ne)) none=some r from h)
        obtain ⟨h3,h4⟩:=and_t h1
        have h3:=beq_t h3
        have h4:n≤m:=ble_t h4
        subst h3
        cases h2
        rw [norm_m hw]
        refine ⟨trivial,?_⟩
        have e:(((c / 2 ^ j % 2 ^ m * 2 ^ 0:Nat):Int) % ((2 ^ n:Nat):Int))=((c / 2 ^ j % 2 ^ n * 2 ^ 0:Nat):Int):=by
          rw [← Int.natCast_emod,Nat.pow_zero,Nat.mul_one,Nat.mul_one,Nat.mod_mod_of_dvd _ (Nat.pow_dvd_pow 2 h4)]
        rw [e]
        exact .sy k i _ _ _ ne c hc hb2 hn
    · cases h
  · cases h
theorem imem_t {n:Int}:∀ {l:List Int},imem n l=true→n ∈ l
  | [],h=>by cases h
  | a :: l,h=>by
    cases hb:ieq a n with
    | true =>
      rw [ieq_eq,decide_eq_true_eq] at hb
      subst hb; simp
    | false =>
      have h:cond (ieq a n) true (imem n l)=true:=h
      rw [hb] at h
      exact List.mem_cons_of_mem _ (imem_t h)
theorem sySame_eq (h:sySame a b=true) (ha:R ρ a a') (hb:R ρ b b'):∃ k x,a'=.sc (.int k x)∧b'=.sc (.int k x):=by
  unfold sySame at h
  split at h
  · obtain ⟨h1,h7⟩:=and_t h
    obtain ⟨h1,h6⟩:=and_t h1
    obtain ⟨h1,h5⟩:=and_t h1
    obtain ⟨h3,h4⟩:=and_t h1
    have h3:=keq_eq h3
    have h4:=beq_t h4
    have h5:=beq_t h5
    have h6:=beq_t h6
    have h7:=beq_t h7
    subst h3; subst h4; subst h5; subst h6; subst h7
    obtain ⟨c,hc,_,_,rfl⟩:=ha.sy_inv
    obtain ⟨c',hc',_,_,rfl⟩:=hb.sy_inv
    rw [hc] at hc'; cases hc'
    exact ⟨_,_,rfl,rfl⟩
  · obtain ⟨h1,h2⟩:=and_t h
    have h1:=keq_eq h1
    subst h1
    rw [ieq_eq,decide_eq_true_eq] at h2
    subst h2
    exact ⟨_,_,ha.int_inv,hb.int_inv⟩
  · cases h
theorem sySames_eq:∀ {l m:List W} {L M:List Int},sySames l m=true→RL ρ l (bs L)→RL ρ m (bs M)→L=M
  | [],[],L,M,_,hl,hm=>by
    have e1:=hl.len; have e2:=hm.len
    rw [bs_len] at e1 e2
    rw [List.eq_nil_of_length_eq_zero e1.symm,List.eq_nil_of_length_eq_zero e2.symm]
  | a :: l,b :: m,L,M,h,hl,hm=>by
    obtain ⟨h1,h2⟩:=and_t h
    cases L with
    | nil=>have:=hl.len; simp [bs_len] at this
    | cons x L =>
      cases M with
      | nil=>have:=hm.len; simp [bs_len] at this
      | cons y M =>
        rw [bs_cons] at hl hm
        obtain ⟨_,_,q1,r1,hl'⟩:=hl.cons_inv
        obtain ⟨_,_,q2,r2,hm'⟩:=hm.cons_inv
        cases q1; cases q2
        obtain ⟨k,z,e1,e2⟩:=sySame_eq h1 r1 r2
        cases e1; cases e2
        rw [sySames_eq h2 hl' hm']
theorem R.sstr_inv {l:List W} (h:R ρ (.sstr l) a'):∃ L,IsB L∧RL ρ l (bs L)∧a'=.sc (.string (strOf L)):=by
  cases h with
  | sstr _ L hB hl h=>exact ⟨L,hB,⟨hl,h⟩,rfl⟩
theorem syEq_R {t:Bool} (h:syEq a b=some t) (ha:R ρ a a') (hb:R ρ b b'):(∃ k x y,a'=.sc (.int k x)∧b'=.sc (.int k y)∧t=decide (x=y)) ∨ ∃ x y:ByteArray,a'=.sc (.string x)∧b'=.sc (.string y)∧t=decide (x=y):=by
  have off:∀ {k k':IntKind} {i:Nat} {ne:List Int} {n:Int} {u v:V},(keq k k' && imem n ne)=true→R ρ (.sy k i 0 32 0 ne) u→R ρ (.int k' n) v→∃ x,u=.sc (.int k x)∧v=.sc (.int k n)∧x ≠ n:=fun {k k' i ne n u v} h ha hb=>by
    obtain ⟨h1,h2⟩:=and_t h
    have h1:=keq_eq h1
    subst h1
    obtain ⟨c,hc,hlt,hn,rfl⟩:=ha.sy_inv
    have e:c / 2 ^ 0 % 2 ^ 32 * 2 ^ 0=c:=by rw [Nat.pow_zero,Nat.div_one,Nat.mul_one,Nat.mod_eq_of_lt hlt]
    exact ⟨_,rfl,hb.int_inv,by rw [e]; exact hn n (imem_t h2)⟩
  unfold syEq at h
  split at h
  · rename_i k i j m s ne k' i' j' m' s' ne'
    cases hx:sySame (.sy k i j m s ne) (.sy k' i' j' m' s' ne') with
    | false=>rw [hx] at h; cases h
    | true =>
      rw [hx] at h
      cases h
      obtain ⟨k,z,e1,e2⟩:=sySame_eq hx ha hb
      exact .inl ⟨k,z,z,e1,e2,by simp⟩
  · rename_i k i ne k' n
    cases hx:(keq k k' && imem n ne) with
    | false=>rw [hx] at h; cases h
    | true =>
      rw [hx] at h
      cases h
      obtain ⟨x,e1,e2,e3⟩:=off hx ha hb
      exact .inl ⟨k,x,n,e1,e2,by simp [e3]⟩
  · rename_i k' n k i ne
    cases hx:(keq k k' && imem n ne) with
    | false=>rw [hx] at h; cases h
    | true =>
      rw [hx] at h
      cases h
      obtain ⟨x,e1,e2,e3⟩:=off hx hb ha
      exact .inl ⟨k,n,x,e2,e1,by simp [Ne.symm e3]⟩
  · rename_i l m
    cases hx:sySames l m with
    | false=>rw [hx] at h; cases h
    | true =>
      rw [hx] at h
      cases h
      obtain ⟨L,_,r1,e1⟩:=ha.sstr_inv
      obtain ⟨M,_,r2,e2⟩:=hb.sstr_inv
      have:=sySames_eq hx r1 r2
      subst this
      exact .inr ⟨_,_,e1,e2,by simp⟩
  · cases h
theorem syCmp_R {neg:Bool} (h:syCmp neg a b=some r) (ha:R ρ a a') (hb:R ρ b b'):(vbin (cond neg .neq .eql) a' b').1∧R ρ r (vbin (cond neg .neq .eql) a' b').2:=by
  unfold syCmp at h
  split at h
  · rename_i t ht
    cases h
    rcases syEq_R ht ha hb with ⟨k,x,y,rfl,rfl,rfl⟩ | ⟨x,y,rfl,rfl,rfl⟩
    · cases neg
      · exact ⟨rfl,.bool _⟩
      · refine ⟨rfl,?_⟩
        show R ρ _ (.sc (.bool (decide (x ≠ y))))
        rw [decide_not]; exact .bool _
    · cases neg
      · exact ⟨trivial,.bool _⟩
      · refine ⟨trivial,?_⟩
        show R ρ _ (.sc (.bool (decide (x ≠ y))))
        rw [decide_not]; exact .bool _
  · cases h
theorem syLeq_R (h:syLeq a b=some r) (ha:R ρ a a') (hb:R ρ b b'):(vbin .leq a' b').1∧R ρ r (vbin .leq a' b').2:=by
  unfold syLeq at h
  split at h
  · rename_i k i j m s ne k' n
    obtain ⟨h1,h2⟩:=bi_none h
    obtain ⟨h3,h4⟩:=and_t h1
    have h3:=keq_eq h3
    have h4:2 ^ (m + s)≤n + 1:=ble_t h4
    subst h3
    cases h2
    obtain ⟨c,_,_,_,rfl⟩:=ha.sy_inv
    have hbi:=hb.int_inv
    subst hbi
    have hlt:=pow_lt (x:=c / 2 ^ j) (Nat.le_refl (m + s))
    refine ⟨rfl,?_⟩
    show R ρ _ (.sc (.bool (decide (((c / 2 ^ j % 2 ^ m * 2 ^ s:Nat):Int)≤((n:Nat):Int)))))
    rw [decide_eq_true (by omega)]
    exact .bool _
  · cases h
theorem bin_R {op:BinOp} (h:(cBin op).f a b=some r) (ha:R ρ a a') (hb:R ρ b b'):(vbin op a' b').1∧R ρ r (vbin op a' b').2:=by
  have two:∀ {f:IntKind→Int→IntKind→Int→Option W},onII a b f=some r→∃ k x k' y,a'=.sc (.int k x)∧b'=.sc (.int k' y)∧f k x k' y=some r:=fun g=>by
    obtain ⟨k,x,k',y,e1,e2,g7⟩:=onII_some g
    rw [e1] at ha; rw [e2] at hb
    exact ⟨k,x,k',y,ha.int_inv,hb.int_inv,g7⟩
  have twoS:∀ {g:List Int→List Int→Option W} {f:IntKind→Int→IntKind→Int→Option W},onSI a b g f=some r→(∃ k x k' y,a'=.sc (.int k x)∧b'=.sc (.int k' y)∧f k x k' y=some r) ∨ ∃ x y,IsB x∧IsB y∧a'=.sc (.string (strOf x))∧b'=.sc (.string (strOf y))∧g x y=some r:=fun g=>by
    rcases onSI_some g with ⟨k,x,k',y,e1,e2,g⟩ | ⟨x,y,e1,e2,g⟩ <;> rw [e1] at ha <;> rw [e2] at hb
    · exact .inl ⟨k,x,k',y,ha.int_inv,hb.int_inv,g⟩
    · exact .inr ⟨x,y,ha.str_inv.1,hb.str_inv.1,ha.str_inv.2,hb.str_inv.2,g⟩
  cases op with
  | add =>
    rcases twoS h with ⟨k,x,k',y,q1,q2,h⟩ | ⟨x,y,hx,hy,q1,q2,h⟩ <;> subst q1 <;> subst q2
    · obtain ⟨e80,g8⟩:=kg_some h; subst e80
      rw [iadd_eq] at g8
      exact ⟨⟨rfl,(norm_R (ρ:=ρ) g8).1⟩,(norm_R g8).2⟩
    · obtain ⟨h1,g9⟩:=bi_none h
      cases g9
      rw [ble_dec,decide_eq_true_eq] at h1
      have h1:llen x + llen y≤9223372036854775807:=h1
      rw [llen_eq,llen_eq] at h1
      refine ⟨by show (strOf x).size + (strOf y).size≤_; rw [strOf_size,strOf_size]; exact h1,?_⟩
      show R ρ _ (.sc (.string (strOf x ++ strOf y)))
      rw [strOf_append]
      exact .str _ fun q hq=>(List.mem_append.1 hq).elim (hx q) (hy q)
  | sub =>
    obtain ⟨k,x,k',y,e100,e101,g10⟩:=two h; subst e100; subst e101
    obtain ⟨e110,g11⟩:=kg_some g10; subst e110
    rw [isub_eq] at g11
    exact ⟨⟨rfl,(norm_R (ρ:=ρ) g11).1⟩,(norm_R g11).2⟩
  | mul =>
    obtain ⟨k,x,k',y,e120,e121,g12⟩:=two h; subst e120; subst e121
    obtain ⟨e130,g13⟩:=kg_some g12; subst e130
    exact ⟨⟨rfl,(norm_R (ρ:=ρ) g13).1⟩,(norm_R g13).2⟩
  | quo =>
    obtain ⟨k,x,k',y,e140,e141,g14⟩:=two h; subst e140; subst e141
    obtain ⟨u,e150,g15⟩:=ie_some g14; subst e150
    obtain ⟨v,e160,g16⟩:=ie_some g15; subst e160
    obtain ⟨hv,g16⟩:=bi_non' g16
    obtain ⟨e170,g17⟩:=kg_some g16; subst e170
    rw [beq_dec,decide_eq_false_iff_not] at hv
    have e:((u:Int) / (v:Int))=Int.ofNat (Nat.div u v):=rfl
    rw [← e] at g17
    exact ⟨⟨rfl,by omega,by omega,(norm_R (ρ:=ρ) g17).1⟩,(norm_R g17).2⟩
  | rem =>
    obtain ⟨k,x,k',y,e180,e181,g18⟩:=two h; subst e180; subst e181
    obtain ⟨u,e190,g19⟩:=ie_some g18; subst e190
    obtain ⟨v,e200,g20⟩:=ie_some g19; subst e200
    obtain ⟨hv,g20⟩:=bi_non' g20
    obtain ⟨e210,g21⟩:=kg_some g20; subst e210
    rw [beq_dec,decide_eq_false_iff_not] at hv
    cases iW_some g21
    exact ⟨⟨rfl,by omega,by omega⟩,.int k _⟩
  | and =>
    obtain ⟨k,x,k',y,e220,e221,g22⟩:=two h; subst e220; subst e221
    obtain ⟨e230,g23⟩:=kg_some g22; subst e230
    obtain ⟨n,u,v,hn,rfl,rfl,hu,hv,rfl⟩:=ebit_some g23
    refine ⟨rfl,?_⟩
    show R ρ _ (.sc (.int k (ibit .and k u v)))
    rw [land_eq hn hu hv]; exact .int k _
  | or =>
    rcases onII2_some h with h | h
    case inr=>exact syOr_R h ha hb
    obtain ⟨k,x,k',y,e240,e241,g24⟩:=two h; subst e240; subst e241
    obtain ⟨e250,g25⟩:=kg_some g24; subst e250
    obtain ⟨n,u,v,hn,rfl,rfl,hu,hv,rfl⟩:=ebit_some g25
    refine ⟨rfl,?_⟩
    show R ρ _ (.sc (.int k (ibit .or k u v)))
    rw [lor_eq hn hu hv]; exact .int k _
  | xor =>
    obtain ⟨k,x,k',y,e260,e261,g26⟩:=two h; subst e260; subst e261
    obtain ⟨e270,g27⟩:=kg_some g26; subst e270
    obtain ⟨n,u,v,hn,rfl,rfl,hu,hv,rfl⟩:=ebit_some g27
    refine ⟨rfl,?_⟩
    show R ρ _ (.sc (.int k (ibit .xor k u v)))
    rw [xor_eq hn hu hv]; exact .int k _
  | andNot =>
    obtain ⟨k,x,k',y,e280,e281,g28⟩:=two h; subst e280; subst e281
    obtain ⟨e290,g29⟩:=kg_some g28; subst e290
    obtain ⟨n,u,v,hn,rfl,rfl,hu,hv,rfl⟩:=ebit_some g29
    refine ⟨rfl,?_⟩
    show R ρ _ (.sc (.int k (ibit .andNot k u v)))
    rw [andNot_eq hn hu hv]; exact .int k _
  | shl =>
    rcases onII2_some h with h | h
    case inr=>exact syShl_R h ha hb
    obtain ⟨k,x,k',y,e300,e301,g30⟩:=two h; subst e300; subst e301
    obtain ⟨s,e310,g31⟩:=ie_some g30; subst e310
    rw [shAm_eq] at g31
    have e:Int.mul x (Int.ofNat (2 ^ shAmt k (s:Int)))=x * 2 ^ shAmt k (s:Int):=by
      show x * ((2 ^ shAmt k (s:Int):Nat):Int)=_
      rw [Int.natCast_pow]; rfl
    rw [e] at g31
    exact ⟨⟨by omega,(norm_R (ρ:=ρ) g31).1⟩,(norm_R g31).2⟩
  | shr =>
    rcases onII2_some h with h | h
    case inr=>exact syShr_R h ha hb
    obtain ⟨k,x,k',y,e320,e321,g32⟩:=two h; subst e320; subst e321
    obtain ⟨u,e330,g33⟩:=ie_some g32; subst e330
    obtain ⟨s,e340,g34⟩:=ie_some g33; subst e340
    rw [shAm_eq] at g34
    cases iW_some g34
    have e:Int.ofNat (Nat.div u (2 ^ shAmt k (s:Int)))=(u:Int) / 2 ^ shAmt k (s:Int):=by
      show ((u / 2 ^ shAmt k (s:Int):Nat):Int)=_
      rw [Int.natCast_ediv,Int.natCast_pow]; rfl
    rw [e]
    exact ⟨by show (0:Int)≤s; omega,.int k _⟩
  | eql =>
    rcases onSI2_some h with h | h
    case inr=>exact syCmp_R (neg:=false) h ha hb
    rcases twoS h with ⟨k,x,k',y,q1,q2,h⟩ | ⟨x,y,hx,hy,q1,q2,h⟩ <;> subst q1 <;> subst q2
    · obtain ⟨e350,g35⟩:=kg_some h; subst e350
      cases bb_some g35
      rw [ieq_eq]; exact ⟨rfl,.bool _⟩
    · cases bb_some h
      rw [leq_eq,← strOf_eq_dec hx hy]; exact ⟨trivial,.bool _⟩
  | neq =>
    rcases onSI2_some h with h | h
    case inr=>exact syCmp_R (neg:=true) h ha hb
    rcases twoS h with ⟨k,x,k',y,q1,q2,h⟩ | ⟨x,y,hx,hy,q1,q2,h⟩ <;> subst q1 <;> subst q2
    · obtain ⟨e360,g36⟩:=kg_some h; subst e360
      cases bb_some g36
      refine ⟨rfl,?_⟩
      show R ρ _ (.sc (.bool (decide (x ≠ y))))
      rw [ieq_eq,decide_not]; exact .bool _
    · cases bb_some h
      refine ⟨trivial,?_⟩
      show R ρ _ (.sc (.bool (decide (strOf x ≠ strOf y))))
      rw [leq_eq,← strOf_eq_dec hx hy,decide_not]; exact .bool _
  | lss =>
    obtain ⟨k,x,k',y,e370,e371,g37⟩:=two h; subst e370; subst e371
    obtain ⟨e380,g38⟩:=kg_some g37; subst e380
    cases bb_some g38
    refine ⟨rfl,?_⟩
    show R ρ _ (.sc (.bool (decide (x < y))))
    rw [ile_eq,show decide (x < y)=!decide (y≤x) by rw [← decide_not]; exact decide_eq_decide.2 (by omega)]; exact .bool _
  | leq =>
    rcases onII2_some h with h | h
    case inr=>exact syLeq_R h ha hb
    obtain ⟨k,x,k',y,e390,e391,g39⟩:=two h; subst e390; subst e391
    obtain ⟨e400,g40⟩:=kg_some g39; subst e400
    cases bb_some g40
    rw [ile_eq]; exact ⟨rfl,.bool _⟩
  | gtr =>
    obtain ⟨k,x,k',y,e410,e411,g41⟩:=two h; subst e410; subst e411
    obtain ⟨e420,g42⟩:=kg_some g41; subst e420
    cases bb_some g42
    refine ⟨rfl,?_⟩
    show R ρ _ (.sc (.bool (decide (y < x))))
    rw [ile_eq,show decide (y < x)=!decide (x≤y) by rw [← decide_not]; exact decide_eq_decide.2 (by omega)]; exact .bool _
  | geq =>
    obtain ⟨k,x,k',y,e430,e431,g43⟩:=two h; subst e430; subst e431
    obtain ⟨e440,g44⟩:=kg_some g43; subst e440
    cases bb_some g44
    rw [ile_eq]; exact ⟨rfl,.bool _⟩
theorem un_xor {k:IntKind} {n:Nat} (hn:ubits k=some n) (h1:keq k .i64=false):k.signed=false∧k.max=((2 ^ n - 1:Nat):Int):=by
  cases k <;> simp only [ubits,Option.some.injEq,reduceCtorEq] at hn <;> subst hn <;> first | exact ⟨rfl,rfl⟩ | exact absurd h1 (by decide)
theorem un_R {op:UnOp} (h:eun op a=some r) (ha:R ρ a a'):(vun op a').1∧R ρ r (vun op a').2:=by
  cases a with
  | int k x =>
    cases ha.int_inv
    cases op with
    | neg =>
      have e:Int.neg x=0 - x:=(Int.zero_sub x).symm
      have g:(cNorm k).f (Int.neg x)=some r:=h
      rw [e] at g
      exact norm_R g
    | xor =>
      have g:(match ubits k with | some n=>cond (keq k .i64) none (ebit Nat.xor k (.ofNat (Nat.sub (Nat.pow 2 n) 1)) x) | none=>none)=some r:=h
      cases hn:ubits k with
      | none=>rw [hn] at g; cases g
      | some n =>
        rw [hn] at g
        obtain ⟨h1,h2⟩:=cond_non' g
        obtain ⟨n',u,v,hn',hu',hv',hu,hv,rfl⟩:=ebit_some h2
        obtain ⟨s1,s2⟩:=un_xor hn h1
        rw [hn] at hn'; cases hn'
        have e:2 ^ n - 1=u:=Int.ofNat.inj hu'
        refine ⟨trivial,?_⟩
        show R ρ _ (.sc (.int k (ibit .xor k (if k.signed then -1 else k.max) x)))
        rw [s1,if_neg (by simp),s2,hv',e,xor_eq hn hu hv]
        exact .int k _
    | _=>cases h
  | bool x =>
    cases ha.bool_inv
    cases op with
    | not=>cases h; exact ⟨trivial,.bool _⟩
    | _=>cases h
  | _=>cases h
theorem beqb_eq (x y:Bool):beqb x y=(x == y):=by cases x <;> cases y <;> rfl
theorem binb_R {neg:Bool} (h:ebinb neg a b=some r) (ha:R ρ a a') (hb:R ρ b b'):(vbinb neg a' b').1∧R ρ r (vbinb neg a' b').2:=by
  unfold ebinb at h
  split at h
  · cases ha.bool_inv; cases hb.bool_inv
    cases h
    refine ⟨trivial,?_⟩
    show R ρ _ (.sc (.bool (if neg then _ else _)))
    rw [beqb_eq]
    cases neg <;> exact .bool _
  · cases h
theorem eq_R:∀ (lf:List Lf) {l m:List W} {l' m':List V} {q:Bool},eeq lf l m=some q→RL ρ l l'→RL ρ m m'→fitsV lf l'∧fitsV lf m'∧eqV l' m'=q
  | [],l,m,l',m',q,h,hl,hm=>by
    unfold eeq at h
    split at h <;> first | cases h | skip
    all_goals first | (cases hl.nil_inv; cases hm.nil_inv; exact ⟨trivial,trivial,rfl⟩) | (rename_i e; cases e)
  | x :: lf,l,m,l',m',q,h,hl,hm=>by
    unfold eeq at h
    split at h
    · rename_i e; cases e
    · rename_i k l0 k1 x1 l1 k2 x2 m1 e; cases e
      obtain ⟨h1,h2⟩:=cond_none h
      simp only [Bool.and_eq_true] at h1
      cases keq_eq h1.1; cases keq_eq h1.2
      obtain ⟨b1,l2,rfl,r1,hl2⟩:=hl.cons_inv
      obtain ⟨b2,m2,rfl,r2,hm2⟩:=hm.cons_inv
      cases r1.int_inv; cases r2.int_inv
      split at h2
      · rename_i q' hq
        cases h2
        obtain ⟨f1,f2,f3⟩:=eq_R lf hq hl2 hm2
        exact ⟨⟨rfl,f1⟩,⟨rfl,f2⟩,by show (decide (_=_) && eqV _ _)=_; rw [f3,ieq_eq]⟩
      · cases h2
    · rename_i l0 x1 l1 x2 m1 e; cases e
      obtain ⟨b1,l2,rfl,r1,hl2⟩:=hl.cons_inv
      obtain ⟨b2,m2,rfl,r2,hm2⟩:=hm.cons_inv
      cases r1.bool_inv; cases r2.bool_inv
      split at h
      · rename_i q' hq
        cases h
        obtain ⟨f1,f2,f3⟩:=eq_R lf hq hl2 hm2
        exact ⟨f1,f2,by show ((_ == _) && eqV _ _)=_; rw [f3,beqb_eq]⟩
      · cases h
    · rename_i l0 x1 l1 x2 m1 e; cases e
      obtain ⟨b1,l2,rfl,r1,hl2⟩:=hl.cons_inv
      obtain ⟨b2,m2,rfl,r2,hm2⟩:=hm.cons_inv
      obtain ⟨i1,rfl⟩:=r1.str_inv
      obtain ⟨i2,rfl⟩:=r2.str_inv
      split at h
      · rename_i q' hq
        cases h
        obtain ⟨f1,f2,f3⟩:=eq_R lf hq hl2 hm2
        exact ⟨f1,f2,by show (decide (_=_) && eqV _ _)=_; rw [f3,leq_eq,strOf_eq_dec i1 i2]⟩
      · cases h
    · cases h
theorem R.agg_inv {l:List W} (h:R ρ (.agg l) a'):∃ l',a'=.agg l'∧RL ρ l l':=by
  cases h with
  | agg _ vs hl h=>exact ⟨vs,rfl,hl,h⟩
theorem R.tup_inv {l:List W} (h:R ρ (.tup l) a'):∃ l',a'=.tup l'∧RL ρ l l':=by
  cases h with
  | tup _ vs hl h=>exact ⟨vs,rfl,hl,h⟩
theorem R.sl_inv {t:Tk} {l:List W} (h:R ρ (.sl t l) a'):∃ t' l',a'=.sl t' l'∧RT ρ t t'∧RL ρ l l':=by
  cases h with
  | sl _ t' _ vs ht hl h=>exact ⟨t',vs,rfl,ht,hl,h⟩
theorem R.ptr_inv {i o:Nat} (h:R ρ (.ptr i o) a'):∃ b,ρ i=some b∧a'=.sc (.pointer (some ⟨b,o,none⟩)):=by
  cases h with
  | ptr _ _ b h=>exact ⟨b,h,rfl⟩
theorem R.ep_inv {l:List W} {o:Nat} (h:R ρ (.ep l o) a'):∃ l',a'=.ep l' o∧RL ρ l l':=by
  cases h with
  | ep _ vs _ hl h=>exact ⟨vs,rfl,hl,h⟩
theorem R.bsl_inv {i o n:Nat} {c:Option Nat} (h:R ρ (.bsl i o n c) a'):∃ b c',ρ i=some b∧n≤c'∧(∀ x,c=some x→x=c')∧a'=.sc (.slice (some ⟨b,o,none⟩) n c'):=by
  cases h with
  | bsl _ _ _ b c' _ h hn hc=>exact ⟨b,c',h,hn,hc,rfl⟩
theorem R.osl_inv {i j n:Nat} (h:R ρ (.osl i j n) a'):∃ b c',ρ i=some b∧ρ j=some c'∧n≤c'∧a'=.sc (.slice (some ⟨b,0,none⟩) n c'):=by
  cases h with
  | osl _ _ _ b c' h hj hn=>exact ⟨b,c',h,hj,hn,rfl⟩
theorem R.map_inv {i:Nat} (h:R ρ (.map i) a'):∃ b,ρ i=some b∧a'=.sc (.map (some b)):=by
  cases h with
  | map _ b h=>exact ⟨b,h,rfl⟩
theorem RL.mkAgg {l:List W} {l':List V} (h:RL ρ l l'):R ρ (.agg l) (.agg l'):=.agg _ _ h.len h.at_
theorem RL.mkTup {l:List W} {l':List V} (h:RL ρ l l'):R ρ (.tup l) (.tup l'):=.tup _ _ h.len h.at_
theorem RL.mkSl {t t':Tk} {l:List W} {l':List V} (ht:RT ρ t t') (h:RL ρ l l'):R ρ (.sl t l) (.sl t' l'):=.sl _ _ _ _ ht h.len h.at_
theorem RL.mkEp {o:Nat} {l:List W} {l':List V} (h:RL ρ l l'):R ρ (.ep l o) (.ep l' o):=.ep _ _ _ h.len h.at_
theorem eqs_R {neg:Bool} {lf:List Lf} (h:eeqs neg lf a b=some r) (ha:R ρ a a') (hb:R ρ b b'):(veqs neg lf a' b').1∧R ρ r (veqs neg lf a' b').2:=by
  unfold eeqs at h
  split at h
  · obtain ⟨l,rfl,hl⟩:=ha.agg_inv
    obtain ⟨m,rfl,hm⟩:=hb.agg_inv
    split at h
    · rename_i q hq
      obtain ⟨f1,f2,f3⟩:=eq_R lf hq hl hm
      cases h
      refine ⟨⟨f1,f2⟩,?_⟩
      show R ρ _ (.sc (.bool (if neg then _ else _)))
      rw [f3]
      cases neg <;> exact .bool _
    · cases h
  · cases h
theorem isnil_R {neg:Bool} (h:eisnil neg a=some r) (ha:R ρ a a'):(visnil neg a').1∧R ρ r (visnil neg a').2:=by
  unfold eisnil at h
  split at h
  · obtain ⟨t,l,rfl,ht,hl⟩:=ha.sl_inv
    cases ht; cases hl.nil_inv; cases h; exact ⟨trivial,.bool _⟩
  · obtain ⟨t,l,rfl,ht,hl⟩:=ha.sl_inv
    cases ht; cases h; exact ⟨trivial,.bool _⟩
  · obtain ⟨t,l,rfl,ht,hl⟩:=ha.sl_inv
    obtain ⟨b1,l2,rfl,_,_⟩:=hl.cons_inv
    cases ht; cases h; exact ⟨trivial,.bool _⟩
  · obtain ⟨t,l,rfl,ht,hl⟩:=ha.sl_inv
    cases ht; cases h; exact ⟨trivial,.bool _⟩
  · obtain ⟨b,c',hb,hn,hc,rfl⟩:=ha.bsl_inv
    cases h; exact ⟨trivial,.bool _⟩
  · obtain ⟨b,c',hb,hj,hn,rfl⟩:=ha.osl_inv
    cases h; exact ⟨trivial,.bool _⟩
  · cases h
theorem pnil_R {neg:Bool} (h:epnil neg a=some r) (ha:R ρ a a'):(vpnil neg a').1∧R ρ r (vpnil neg a').2:=by
  unfold epnil at h
  split at h
  · cases ha; cases h; exact ⟨trivial,.bool _⟩
  · obtain ⟨b,hb,rfl⟩:=ha.ptr_inv; cases h; exact ⟨trivial,.bool _⟩
  · obtain ⟨l,rfl,_⟩:=ha.ep_inv; cases h; exact ⟨trivial,.bool _⟩
  · cases h
theorem mnil_R {neg:Bool} (h:emnil neg a=some r) (ha:R ρ a a'):(vmnil neg a').1∧R ρ r (vmnil neg a').2:=by
  unfold emnil at h
  split at h
  · cases ha; cases h; exact ⟨trivial,.bool _⟩
  · obtain ⟨b,hb,rfl⟩:=ha.map_inv; cases h; exact ⟨trivial,.bool _⟩
  · cases h
theorem inil_R {neg:Bool} (h:einil neg a=some r) (ha:R ρ a a'):(vinil neg a').1∧R ρ r (vinil neg a').2:=by
  unfold einil at h
  split at h
  · cases ha; cases h; exact ⟨trivial,.bool _⟩
  · cases ha; cases h; exact ⟨trivial,.bool _⟩
  · cases h
theorem binZ_R {op:BinOp} (h:eBinZ op a b=some r) (ha:R ρ a a') (hb:R ρ b b'):(vbinZ op a' b').1∧R ρ r (vbinZ op a' b').2:=by
  cases op with
  | quo =>
    have h:(cBin .quo).f a b=some r:=h
    have hk:=bin_R h ha hb
    obtain ⟨k,x,k',y,e1,e2,-⟩:=onII_some (show onII a b _=some r from h)
    rw [e1] at ha; rw [e2] at hb
    have q1:=ha.int_inv
    have q2:=hb.int_inv
    subst q1; subst q2
    obtain ⟨⟨h1,h2,h3,h4⟩,h5⟩:=hk
    refine ⟨⟨h1,h3,?_⟩,?_⟩
    · show (norm k (x.tdiv y)).1; rw [Int.tdiv_eq_ediv_of_nonneg h2]; exact h4
    · show R ρ r (norm k (x.tdiv y)).2; rw [Int.tdiv_eq_ediv_of_nonneg h2]; exact h5
  | rem =>
    have h:(cBin .rem).f a b=some r:=h
    have hk:=bin_R h ha hb
    obtain ⟨k,x,k',y,e1,e2,-⟩:=onII_some (show onII a b _=some r from h)
    rw [e1] at ha; rw [e2] at hb
    have q1:=ha.int_inv
    have q2:=hb.int_inv
    subst q1; subst q2
    obtain ⟨⟨h1,h2,h3⟩,h5⟩:=hk
    refine ⟨⟨h1,h3⟩,?_⟩
    show R ρ r (.sc (.int k (x.tmod y))); rw [Int.tmod_eq_emod_of_nonneg h2]; exact h5
  | _=>cases h
end
end Ev
end
section
namespace Ev
open Go
section
variable {ρ:Rn} {a b r:W} {a' b':V}
theorem nat_inv {n:Nat}:(Int.ofNat n)=(n:Int):=rfl
theorem ble_f {x y:Nat} (h:Nat.ble x y=false):y < x:=by rw [ble_dec,decide_eq_false_iff_not] at h; omega
theorem nbeq_t {x y:Nat} (h:(!(Nat.beq x y))=true):x ≠ y:=by rw [beq_dec] at h; simpa using h
theorem allS_R {size:Nat} {l:List W} {m:List V} (h:allS size l=true) (hl:RL ρ l m):size ≠ 0∧allSz size m∧∀ d ∈ l,d.cells.length=size:=by
  have h0:size ≠ 0∧allS1 size l=true:=by
    cases e:Nat.beq size 0
    · refine ⟨fun q=>?_,?_⟩
      · subst q; cases e
      · have g:bi (Nat.beq size 0) false (allS1 size l)=true:=h
        rw [e] at g; exact g
    · have g:bi (Nat.beq size 0) false (allS1 size l)=true:=h
      rw [e] at g; cases g
  refine ⟨h0.1,?_⟩
  have key:∀ (l:List W) (m:List V),allS1 size l=true→RL ρ l m→allSz size m∧∀ d ∈ l,d.cells.length=size:=by
    intro l
    induction l with
    | nil=>intro m _ hl; cases hl.nil_inv; exact ⟨fun d hd=>(by cases hd),fun d hd=>(by cases hd)⟩
    | cons d l ih =>
      intro m h hl
      obtain ⟨h1,h2⟩:=and_t h
      obtain ⟨b1,m2,rfl,r1,hl2⟩:=hl.cons_inv
      obtain ⟨k1,k2⟩:=r1.cellsN (beq_t h1) h0.1
      obtain ⟨i1,i2⟩:=ih m2 h2 hl2
      refine ⟨fun x hx=>?_,fun x hx=>?_⟩
      · rcases List.mem_cons.1 hx with rfl | hx
        · exact k1
        · exact i1 x hx
      · rcases List.mem_cons.1 hx with rfl | hx
        · rw [k2.len,k1]
        · exact i2 x hx
  exact key l m h0.2 hl
theorem u8W_R:∀ {l:List W} {m:List V} {q:List Int},u8W l=some q→RL ρ l m→u8sOf m=some q∧IsB q
  | [],m,q,h,hl=>by cases h; cases hl.nil_inv; exact ⟨rfl,fun x hx=>by cases hx⟩
  | w :: l,m,q,h,hl=>by
    obtain ⟨b1,m2,rfl,r1,hl2⟩:=hl.cons_inv
    unfold u8W at h
    split at h
    · rename_i e; cases e
    · rename_i n l0 e; cases e
      obtain ⟨h1,h2⟩:=cond_none h
      cases r1.int_inv
      split at h2
      · rename_i q' hq
        cases h2
        obtain ⟨i1,i2⟩:=u8W_R hq hl2
        refine ⟨by show (u8sOf m2).map _=_; rw [i1]; rfl,fun x hx=>?_⟩
        rcases List.mem_cons.1 hx with rfl | hx
        · have:=ble_t h1; rw [nat_inv]; omega
        · exact i2 x hx
      · cases h2
    · cases h
theorem RL.byW (l:List Int):RL ρ (Ev.byW l) (bs l):=⟨by simp [Ev.byW,bs],fun i c v hc hv=>by
  simp only [Ev.byW,bs,List.getElem?_map,Option.map_eq_some_iff] at hc hv
  obtain ⟨x,hx,rfl⟩:=hc
  obtain ⟨y,hy,rfl⟩:=hv
  rw [hx] at hy; cases hy; exact .int _ _⟩
theorem u8sE:∀ L:List Int,u8sOf (bs L)=some L
  | []=>rfl
  | x :: L=>by rw [bs_cons]; simp only [u8sOf,u8sE L,Option.map_some]
theorem syB_R:∀ {l:List W} {m:List V},syB l=true→RL ρ l m→∃ L,IsB L∧m=bs L
  | [],m,_,hl=>⟨[],(fun x hx=>by cases hx),hl.nil_inv⟩
  | w :: l,m,h,hl=>by
    obtain ⟨b1,m2,rfl,r1,hl2⟩:=hl.cons_inv
    unfold syB at h
    split at h
    · rename_i e; cases e
    · rename_i n l0 e; cases e
      obtain ⟨h1,h2⟩:=and_t h
      obtain ⟨L,hB,rfl⟩:=syB_R h2 hl2
      cases r1.int_inv
      have:=ble_t h1
      refine ⟨Int.ofNat n :: L,fun x hx=>?_,by rw [bs_cons]⟩
      rcases List.mem_cons.1 hx with rfl | hx
      · rw [nat_inv]; omega
      · exact hB x hx
    · rename_i i j m' s ne l0 e; cases e
      obtain ⟨h1,h2⟩:=and_t h
      obtain ⟨L,hB,rfl⟩:=syB_R h2 hl2
      obtain ⟨c,_,_,_,rfl⟩:=r1.sy_inv
      have:=pow_lt (x:=c / 2 ^ j) (show m' + s≤8 from ble_t h1)
      refine ⟨((c / 2 ^ j % 2 ^ m' * 2 ^ s:Nat):Int) :: L,fun x hx=>?_,by rw [bs_cons]⟩
      rcases List.mem_cons.1 hx with rfl | hx
      · generalize c / 2 ^ j % 2 ^ m' * 2 ^ s=z at this
        omega
      · exact hB x hx
    · cases h
theorem syStr_R {l:List W} {m:List V} (h:syStr l=some r) (hl:RL ρ l m):∃ L,u8sOf m=some L∧R ρ r (.sc (.string (strOf L))):=by
  obtain ⟨h1,h2⟩:=cond_none h
  obtain ⟨L,hB,rfl⟩:=syB_R h1 hl
  cases h2
  exact ⟨L,u8sE L,.sstr l L hB hl.len hl.at_⟩
theorem b2s_R (h:eb2s a=some r) (ha:R ρ a a'):(vb2s a').1∧R ρ r (vb2s a').2:=by
  unfold eb2s at h
  split at h
  · obtain ⟨t,l,rfl,ht,hl⟩:=ha.sl_inv
    split at h
    · rename_i q hq
      cases h
      obtain ⟨h1,h2⟩:=u8W_R hq hl
      simp only [vb2s,h1]
      exact ⟨trivial,.str _ h2⟩
    · obtain ⟨L,h1,h2⟩:=syStr_R h hl
      simp only [vb2s,h1]
      exact ⟨trivial,h2⟩
  · cases h
theorem s2b_R (h:es2b a=some r) (ha:R ρ a a'):(vs2b a').1∧R ρ r (vs2b a').2:=by
  unfold es2b at h
  split at h
  · obtain ⟨h1,h2⟩:=cond_none h
    obtain ⟨hB,rfl⟩:=ha.str_inv
    have:=ble_t h1
    rw [llen_eq] at this
    cases h2
    refine ⟨by show (strOf _).size≤maxLen; rw [strOf_size]; unfold maxLen; omega,?_⟩
    show R ρ _ (.sl .no (byL (strOf _)))
    rw [byL_strOf hB]
    exact (RL.byW _).mkSl .no
  · cases h
theorem sidx_R (h:esidx a b=some r) (ha:R ρ a a') (hb:R ρ b b'):(vsidx a' b').1∧R ρ r (vsidx a' b').2:=by
  unfold esidx at h
  split at h
  · obtain ⟨hB,rfl⟩:=ha.str_inv
    cases hb.int_inv
    split at h
    · rename_i x hx
      rw [lget_eq] at hx
      cases h
      simp only [vsidx,bytesOf_strOf hB,nat_inv,Int.toNat_natCast,hx]
      exact ⟨by omega,.int _ _⟩
    · cases h
  · cases h
theorem aidx_R {len:Nat} (h:eaidx len a b=some r) (ha:R ρ a a') (hb:R ρ b b'):(vaidx len a' b').1∧R ρ r (vaidx len a' b').2:=by
  unfold eaidx at h
  split at h
  · obtain ⟨h1,h2⟩:=cond_non' h
    obtain ⟨l,rfl,hl⟩:=ha.agg_inv
    cases hb.int_inv
    rw [lget_eq] at h2
    obtain ⟨v,hv,hr⟩:=hl.get h2
    have:=ble_f h1
    simp only [vaidx,nat_inv,Int.toNat_natCast,hv]
    exact ⟨⟨by omega,by omega⟩,hr⟩
  · cases h
theorem aidxn_R {len size:Nat} (h:eaidxn len size a b=some r) (ha:R ρ a a') (hb:R ρ b b'):(vaidxn len size a' b').1∧R ρ r (vaidxn len size a' b').2:=by
  unfold eaidxn at h
  split at h
  · obtain ⟨h1,h2⟩:=cond_non' h
    obtain ⟨h3,h4⟩:=cond_none h2
    obtain ⟨l,rfl,hl⟩:=ha.agg_inv
    cases hb.int_inv
    have q1:=ble_f h1
    have q2:=ble_t h3
    rw [llen_eq,hl.len] at q2
    cases h4
    simp only [vaidxn,nat_inv,Int.toNat_natCast]
    refine ⟨⟨by omega,by omega,q2⟩,?_⟩
    rw [ltake_eq,ldrop_eq]
    exact ((hl.drop _).take _).mkAgg
  · cases h
theorem fv_R {off:Nat} {n:Option Nat} (h:efv off n a=some r) (ha:R ρ a a'):(vfv off n a').1∧R ρ r (vfv off n a').2:=by
  unfold efv at h
  split at h
  · obtain ⟨h1,h2⟩:=cond_none h
    obtain ⟨l,rfl,hl⟩:=ha.agg_inv
    have q:=ble_t h1
    rw [llen_eq,hl.len] at q
    cases h2
    refine ⟨q,?_⟩
    rw [ltake_eq,ldrop_eq]
    exact ((hl.drop _).take _).mkAgg
  · obtain ⟨l,rfl,hl⟩:=ha.agg_inv
    rw [lget_eq] at h
    obtain ⟨v,hv,hr⟩:=hl.get h
    simp only [vfv,hv]
    exact ⟨trivial,hr⟩
  · cases h
theorem R.sc_inv (h:esc a=true) (ha:R ρ a a'):∃ v,a'=.sc v∧v.oneCell'=true:=by
  cases ha <;> first | exact ⟨_,rfl,rfl⟩ | cases h
theorem mki_R {t:TypeId} (h:emki t a=some r) (ha:R ρ a a'):(vmki t a').1∧R ρ r (vmki t a').2:=by
  obtain ⟨h1,h2⟩:=cond_none h
  obtain ⟨v,rfl,hv⟩:=ha.sc_inv h1
  cases h2
  exact ⟨trivial,.iface t _ v ha hv⟩
theorem conv_R {k:IntKind} (h:econv k a=some r) (ha:R ρ a a'):(vconv k a').1∧R ρ r (vconv k a').2:=by
  rcases wI_some' h with ⟨k',n,rfl,h1⟩ | h1
  · cases ha.int_inv
    exact norm_R h1
  · exact syConv_R h1 ha
theorem fld_R {off:Nat} (h:efld off a=some r) (ha:R ρ a a'):(vfld off a').1∧R ρ r (vfld off a').2:=by
  unfold efld at h
  split at h
  · obtain ⟨b,hb,rfl⟩:=ha.ptr_inv; cases h; exact ⟨trivial,.ptr _ _ b hb⟩
  · obtain ⟨l,rfl,hl⟩:=ha.ep_inv; cases h; exact ⟨trivial,hl.mkEp⟩
  · cases h
theorem ix_R {size:Nat} (h:eix size a b=some r) (ha:R ρ a a') (hb:R ρ b b'):(vix size a' b').1∧R ρ r (vix size a' b').2:=by
  unfold eix at h
  split at h
  · obtain ⟨t,l,rfl,ht,hl⟩:=ha.sl_inv
    cases hb.int_inv
    split at h
    · rename_i d hd
      obtain ⟨h1,h2⟩:=cond_none h
      obtain ⟨h3,h4⟩:=and_t h1
      rw [lget_eq] at hd
      obtain ⟨v,hv,hr⟩:=hl.get hd
      obtain ⟨k1,k2⟩:=hr.cellsN (beq_t h3) (nbeq_t h4)
      cases h2
      simp only [vix,nat_inv,Int.toNat_natCast,hv]
      exact ⟨⟨by omega,k1⟩,k2.mkEp⟩
    · cases h
  · obtain ⟨b,c',hb',hn,hc,rfl⟩:=ha.bsl_inv
    cases hb.int_inv
    obtain ⟨h1,h2⟩:=cond_non' h
    have:=ble_f h1
    cases h2
    simp only [vix,nat_inv,Int.toNat_natCast]
    exact ⟨⟨by omega,by omega⟩,.ptr _ _ b hb'⟩
  · obtain ⟨b,c',hb',hj,hn,rfl⟩:=ha.osl_inv
    cases hb.int_inv
    obtain ⟨h1,h2⟩:=cond_non' h
    have:=ble_f h1
    cases h2
    simp only [vix,nat_inv,Int.toNat_natCast,Nat.zero_add]
    exact ⟨⟨by omega,by omega⟩,.ptr _ _ b hb'⟩
  · cases h
theorem ixa_R {len size:Nat} (h:eixa len size a b=some r) (ha:R ρ a a') (hb:R ρ b b'):(vixa len size a' b').1∧R ρ r (vixa len size a' b').2:=by
  unfold eixa at h
  split at h
  · obtain ⟨b,hb',rfl⟩:=ha.ptr_inv
    cases hb.int_inv
    obtain ⟨h1,h2⟩:=cond_non' h
    have:=ble_f h1
    cases h2
    simp only [vixa,nat_inv,Int.toNat_natCast]
    exact ⟨⟨by omega,by omega⟩,.ptr _ _ b hb'⟩
  · obtain ⟨l,rfl,hl⟩:=ha.ep_inv
    cases hb.int_inv
    obtain ⟨h1,h2⟩:=cond_non' h
    have:=ble_f h1
    cases h2
    simp only [vixa,nat_inv,Int.toNat_natCast]
    exact ⟨⟨by omega,by omega⟩,hl.mkEp⟩
  · cases h
theorem nilck_R (h:enilck a=some r) (ha:R ρ a a'):(vnil a').1∧R ρ r (vnil a').2:=by
  unfold enilck at h
  split at h
  · obtain ⟨b,hb,rfl⟩:=ha.ptr_inv; cases h; exact ⟨trivial,.ptr _ _ b hb⟩
  · obtain ⟨l,rfl,hl⟩:=ha.ep_inv; cases h; exact ⟨trivial,hl.mkEp⟩
  · cases h
theorem ext_R {i:Nat} (h:eext i a=some r) (ha:R ρ a a'):(vext i a').1∧R ρ r (vext i a').2:=by
  unfold eext at h
  split at h
  · obtain ⟨l,rfl,hl⟩:=ha.tup_inv
    rw [lget_eq] at h
    obtain ⟨v,hv,hr⟩:=hl.get h
    simp only [vext,hv]
    exact ⟨trivial,hr⟩
  · cases h
theorem len_R (h:elen a=some r) (ha:R ρ a a'):(vlen a').1∧R ρ r (vlen a').2:=by
  unfold elen at h
  split at h
  · obtain ⟨t,l,rfl,ht,hl⟩:=ha.sl_inv
    cases h
    refine ⟨trivial,?_⟩
    rw [llen_eq,hl.len]; exact .int _ _
  · obtain ⟨b,c',hb',hn,hc,rfl⟩:=ha.bsl_inv
    cases h; exact ⟨trivial,.int _ _⟩
  · obtain ⟨b,c',hb',hj,hn,rfl⟩:=ha.osl_inv
    cases h; exact ⟨trivial,.int _ _⟩
  · rename_i i
    cases h
    cases ha with
    | opq _ c h hl hb =>
      refine ⟨trivial,?_⟩
      have:=R.sy (ρ:=ρ) .i64 (i + 2) 0 9 0 [] _ hl (Nat.lt_of_lt_of_le hb (by decide)) (fun n hn=>by cases hn)
      have e:(decB c).length / 2 ^ 0 % 2 ^ 9 * 2 ^ 0=(decB c).length:=by rw [Nat.pow_zero,Nat.div_one,Nat.mul_one,Nat.mod_eq_of_lt hb]
      rw [e] at this
      show R ρ _ (.sc (.int .i64 ((bs (decB c)).length:Nat)))
      rw [bs_len]
      exact this
  · cases h
theorem slen_R (h:eslen a=some r) (ha:R ρ a a'):(vslen a').1∧R ρ r (vslen a').2:=by
  unfold eslen at h
  split at h
  · obtain ⟨hB,rfl⟩:=ha.str_inv
    cases h
    refine ⟨trivial,?_⟩
    show R ρ _ (.sc (.int .i64 (strOf _).size))
    rw [llen_eq,strOf_size]; exact .int _ _
  · cases h
theorem mm_R {mx:Bool} (h:emm mx a b=some r) (ha:R ρ a a') (hb:R ρ b b'):(vmm mx a' b').1∧R ρ r (vmm mx a' b').2:=by
  unfold emm at h
  split at h
  · rename_i k x k' y
    cases ha.int_inv; cases hb.int_inv
    cases h
    refine ⟨trivial,?_⟩
    show R ρ _ (.sc (.int k (if mx then max x y else min x y)))
    have e1:cond (ile x y) y x=max x y:=by
      rw [ile_eq]
      by_cases hxy:x≤y
      · rw [decide_eq_true hxy,Int.max_eq_right hxy]; rfl
      · rw [decide_eq_false hxy,Int.max_eq_left (by omega)]; rfl
    have e2:cond (ile x y) x y=min x y:=by
      rw [ile_eq]
      by_cases hxy:x≤y
      · rw [decide_eq_true hxy,Int.min_eq_left hxy]; rfl
      · rw [decide_eq_false hxy,Int.min_eq_right (by omega)]; rfl
    cases mx
    · rw [← e2]; exact .int _ _
    · rw [← e1]; exact .int _ _
  · cases h
theorem pick_R {c:W} {c':V} (h:epickB a b c=some r) (ha:R ρ a a') (hb:R ρ b b') (hc:R ρ c c'):(vpick a' b' c').1∧R ρ r (vpick a' b' c').2:=by
  obtain ⟨x,rfl,h1⟩:=wB_some h
  cases hc.bool_inv
  cases x
  · cases h1; exact ⟨trivial,hb⟩
  · cases h1; exact ⟨trivial,ha⟩
theorem splice_R {cs ds q:List W} {cs' ds':List V} {off:Nat} (h:esplice cs off ds=some q) (hc:RL ρ cs cs') (hd:RL ρ ds ds'):off + ds'.length≤cs'.length∧RL ρ q (splice cs' off ds'):=by
  obtain ⟨h1,h2⟩:=cond_none h
  have q1:off + llen ds≤llen cs:=ble_t h1
  rw [llen_eq,llen_eq,hc.len,hd.len] at q1
  cases h2
  refine ⟨q1,?_⟩
  have e:Nat.add off (llen ds)=off + ds'.length:=by rw [llen_eq,hd.len]; rfl
  rw [ltake_eq,ldrop_eq,e,← List.append_assoc]
  exact ((hc.take _).append hd).append (hc.drop _)
theorem fill_R:∀ {ps:List (Nat × Nat × W)} {ps':List (Nat × Nat × V)} {z q:List W} {z':List V},efill z ps=some q→RL ρ z z'→ps.length=ps'.length →
    (∀ (i:Nat) (x:Nat × Nat × W) (y:Nat × Nat × V),ps[i]?=some x→ps'[i]?=some y→x.1=y.1∧x.2.1=y.2.1∧R ρ x.2.2 y.2.2)→(fillV z' ps').1∧RL ρ q (fillV z' ps').2
  | [],ps',z,q,z',h,hz,hl,hp=>by
    cases h
    cases ps' with
    | nil=>exact ⟨trivial,hz⟩
    | cons y ps'=>cases hl
  | (off,size,d) :: ps,ps',z,q,z',h,hz,hl,hp=>by
    cases ps' with
    | nil=>cases hl
    | cons y ps' =>
      obtain ⟨o',s',d'⟩:=y
      obtain ⟨e1,e2,hd⟩:=hp 0 _ _ rfl rfl
      simp only at e1 e2 hd
      subst e1; subst e2
      have g:cond (Nat.beq (llen d.cells) size && !(Nat.beq size 0)) (match esplice z off d.cells with | some r=>efill r ps | none=>none) none=some q:=h
      obtain ⟨h1,h2⟩:=cond_none g
      obtain ⟨h3,h4⟩:=and_t h1
      obtain ⟨k1,k2⟩:=hd.cellsN (beq_t h3) (nbeq_t h4)
      have hn:=nbeq_t h4
      split at h2
      · rename_i r' hr'
        obtain ⟨f1,f2⟩:=splice_R hr' hz k2
        obtain ⟨i1,i2⟩:=fill_R h2 f2 (by simpa using hl) (fun i x y hx hy=>hp (i + 1) x y (by simpa using hx) (by simpa using hy))
        exact ⟨⟨k1,by omega,by rw [← k1]; exact f1,i1⟩,i2⟩
      · cases h2
theorem bld_R {z:List W} {ps:List (Nat × Nat × W)} {z':List V} {ps':List (Nat × Nat × V)} (h:ebld z ps=some r) (hz:RL ρ z z') (hl:ps.length=ps'.length)
    (hp:∀ (i:Nat) (x:Nat × Nat × W) (y:Nat × Nat × V),ps[i]?=some x→ps'[i]?=some y→x.1=y.1∧x.2.1=y.2.1∧R ρ x.2.2 y.2.2):(fillV z' ps').1∧R ρ r (.agg (fillV z' ps').2):=by
  unfold ebld at h
  split at h
  · rename_i q hq
    cases h
    obtain ⟨i1,i2⟩:=fill_R hq hz hl hp
    exact ⟨i1,i2.mkAgg⟩
  · cases h
theorem strip1_R (h:R ρ a a'):R ρ (wstrip1 a) (strip1 a') ∨ a=.any:=by
  cases h with
  | sl t t' l m ht hl h=>exact .inl (.sl _ _ _ _ .no hl h)
  | any v=>exact .inr rfl
  | und=>exact .inl .und
  | int k n=>exact .inl (.int k n)
  | bool b=>exact .inl (.bool b)
  | str l h=>exact .inl (.str l h)
  | nilp=>exact .inl .nilp
  | ptr i o b h=>exact .inl (.ptr i o b h)
  | ep cs vs off hl h=>exact .inl (.ep cs vs off hl h)
  | bsl i o n b c' c h hn hc=>exact .inl (.bsl i o n b c' c h hn hc)
  | osl i j n b c' h hj hn=>exact .inl (.osl i j n b c' h hj hn)
  | nilm=>exact .inl .nilm
  | map i b h=>exact .inl (.map i b h)
  | nili=>exact .inl .nili
  | iface t w v h h1=>exact .inl (.iface t w v h h1)
  | nilf=>exact .inl .nilf
  | func f first cap a b hl h kl k h1=>exact .inl (.func f first cap a b hl h kl k h1)
  | agg cs vs hl h=>exact .inl (.agg cs vs hl h)
  | tup cs vs hl h=>exact .inl (.tup cs vs hl h)
  | sy k i j m s ne c h hb hn=>exact .inl (.sy k i j m s ne c h hb hn)
  | opq i c h hl hb=>exact .inl (.opq i c h hl hb)
  | sstr l L hB hl h=>exact .inl (.sstr l L hB hl h)
theorem strip1_R' (h:R ρ a a'):R ρ (wstrip1 a) (strip1 a'):=by
  rcases strip1_R h with h | rfl
  · exact h
  · exact .any _
theorem RL.map1 {l:List W} {m:List V} (h:RL ρ l m):RL ρ (l.map wstrip1) (m.map strip1):=⟨by simp [h.len],fun i c v hc hv=>by
  simp only [List.getElem?_map,Option.map_eq_some_iff] at hc hv
  obtain ⟨x,hx,rfl⟩:=hc
  obtain ⟨y,hy,rfl⟩:=hv
  exact strip1_R' (h.at_ i x y hx hy)⟩
theorem strip_R (h:R ρ a a'):R ρ (wstrip a) (strip a'):=by
  cases h with
  | agg cs vs hl h=>exact RL.mkAgg (RL.map1 ⟨hl,h⟩)
  | any v=>exact .any _
  | sl t t' l m ht hl h=>exact .sl _ _ _ _ .no hl h
  | und=>exact .und
  | int k n=>exact .int k n
  | bool b=>exact .bool b
  | str l h=>exact .str l h
  | nilp=>exact .nilp
  | ptr i o b h=>exact .ptr i o b h
  | ep cs vs off hl h=>exact .ep cs vs off hl h
  | bsl i o n b c' c h hn hc=>exact .bsl i o n b c' c h hn hc
  | osl i j n b c' h hj hn=>exact .osl i j n b c' h hj hn
  | nilm=>exact .nilm
  | map i b h=>exact .map i b h
  | nili=>exact .nili
  | iface t w v h h1=>exact .iface t w v h h1
  | nilf=>exact .nilf
  | func f first cap a b hl h kl k h1=>exact .func f first cap a b hl h kl k h1
  | tup cs vs hl h=>exact .tup cs vs hl h
  | sy k i j m s ne c h hb hn=>exact .sy k i j m s ne c h hb hn
  | opq i c h hl hb=>exact .opq i c h hl hb
  | sstr l L hB hl h=>exact .sstr l L hB hl h
theorem RL.mapS {l:List W} {m:List V} (h:RL ρ l m):RL ρ (l.map wstrip) (m.map strip):=⟨by simp [h.len],fun i c v hc hv=>by
  simp only [List.getElem?_map,Option.map_eq_some_iff] at hc hv
  obtain ⟨x,hx,rfl⟩:=hc
  obtain ⟨y,hy,rfl⟩:=hv
  exact strip_R (h.at_ i x y hx hy)⟩
variable {A:En} {A':Nat→V}
theorem oM_R (hA:EnR ρ A A'):∀ (l:List X),RL ρ (oM A l) (l.map fun x=>x.ev A')
  | []=>.nil
  | x :: l=>.cons (hA.ev x) (oM_R hA l)
theorem oP_R (hA:EnR ρ A A'):∀ (l:List (Nat × Nat × X)),(oP A l).length=(l.map fun p=>(p.1,p.2.1,p.2.2.ev A')).length ∧
    ∀ (i:Nat) (x:Nat × Nat × W) (y:Nat × Nat × V),(oP A l)[i]?=some x→(l.map fun p=>(p.1,p.2.1,p.2.2.ev A'))[i]?=some y→x.1=y.1∧x.2.1=y.2.1∧R ρ x.2.2 y.2.2
  | []=>⟨rfl,fun i x y h=>by simp [oP] at h⟩
  | (p,q,x) :: l=>by
    obtain ⟨h1,h2⟩:=oP_R hA l
    refine ⟨by simp only [oP,List.map_cons,List.length_cons]; rw [h1],fun i x y hx hy=>?_⟩
    cases i with
    | zero=>simp only [oP,List.getElem?_cons_zero,List.map_cons,Option.some.injEq] at hx hy; subst hx; subst hy; exact ⟨rfl,rfl,hA.ev _⟩
    | succ i=>exact h2 i x y (by simpa [oP] using hx) (by simpa using hy)
theorem oB_R (hA:EnR ρ A A') {x:Option X} {y:Option Nat} (h:oB A x=some y):(x=none∧y=none) ∨ ∃ x0 k n,x=some x0∧y=some n∧x0.ev A'=.sc (.int k (n:Nat)):=by
  cases x with
  | none=>cases h; exact .inl ⟨rfl,rfl⟩
  | some x0 =>
    have g:obnd (some ((cX x0).f A))=some y:=h
    have hr:=hA.ev x0
    generalize (cX x0).f A=w at g hr
    unfold obnd at g
    split at g
    · rename_i e; cases e
    · rename_i k n e; cases e; cases g
      exact .inr ⟨x0,k,n,rfl,rfl,hr.int_inv⟩
    · cases g
end
end Ev
end
section
namespace Ev
open Go
section
variable {ρ:Rn} {a b r:W} {a' b':V} {A:En} {A':Nat→V} {s0:S0} {st:St} {H:Hp}
theorem slcB_R {size:Nat} {x:W} {x':V} {lo hi:Option Nat} {lo' hi':Option V} (h:eslc size x lo hi=some r) (hx:R ρ x x') (hlo:(lo'=none∧lo=none) ∨ ∃ k n,lo'=some (.sc (.int k (n:Nat)))∧lo=some n)
    (hhi:(hi'=none∧hi=none) ∨ ∃ k n,hi'=some (.sc (.int k (n:Nat)))∧hi=some n):(vslc size x' lo' hi').1∧R ρ r (vslc size x' lo' hi').2:=by
  cases x with
  | sl t l =>
    obtain ⟨t',l',rfl,ht,hl⟩:=hx.sl_inv
    have g:cond (Nat.ble (oget lo 0) (oget hi (llen l)) && Nat.ble (oget hi (llen l)) (llen l) && allS size l) (some (.sl .no (ldrop (lcut hi l) (oget lo 0)))) none=some r:=h
    obtain ⟨g1,g2⟩:=cond_none g
    obtain ⟨g3,g4⟩:=and_t g1
    obtain ⟨g5,g6⟩:=and_t g3
    have k1:=ble_t g5
    have k2:=ble_t g6
    obtain ⟨_,k3,_⟩:=allS_R g4 hl
    rw [llen_eq,hl.len] at k1 k2
    cases g2
    rcases hlo with ⟨rfl,rfl⟩ | ⟨k,n,rfl,rfl⟩ <;> rcases hhi with ⟨rfl,rfl⟩ | ⟨k',n',rfl,rfl⟩
    · refine ⟨k3,?_⟩
      show R ρ (.sl .no (ldrop l 0)) _; rw [ldrop_eq]; exact hl.mkSl .no
    · refine ⟨⟨k3,by omega,by rw [Int.toNat_natCast]; exact k2⟩,?_⟩
      simp only [vslc,Int.toNat_natCast]
      show R ρ (.sl .no (ldrop (ltake l n') 0)) _; rw [ldrop_eq,ltake_eq]; exact (hl.take _).mkSl .no
    · refine ⟨⟨k3,by omega,by rw [Int.toNat_natCast]; exact k1⟩,?_⟩
      simp only [vslc,Int.toNat_natCast]
      show R ρ (.sl .no (ldrop l n)) _; rw [ldrop_eq]; exact (hl.drop _).mkSl .no
    · refine ⟨⟨k3,by omega,by have:n≤n':=k1; omega,by rw [Int.toNat_natCast]; exact k2⟩,?_⟩
      simp only [vslc,Int.toNat_natCast]
      show R ρ (.sl .no (ldrop (ltake l n') n)) _; rw [ldrop_eq,ltake_eq]; exact ((hl.take _).drop _).mkSl .no
  | bsl i o n c =>
    obtain ⟨b,c',hb,hn,hc,rfl⟩:=hx.bsl_inv
    have mk:∀ (o2 m:Nat) (c2:Option Nat) (c3:Nat),m≤c3→(∀ x,c2=some x→x=c3)→R ρ (.bsl i o2 m c2) (.sc (.slice (some ⟨b,o2,none⟩) m c3)):=fun o2 m c2 c3 h1 h2=>.bsl i o2 m b c3 c2 hb h1 h2
    rcases hhi with ⟨rfl,rfl⟩ | ⟨k',n',rfl,rfl⟩
    · have g:cond (Nat.ble (oget lo 0) n) (match c with
        | some c=>cond (Nat.ble n c) (cond (Nat.beq (oget lo 0) 0 || !(Nat.ble c (oget lo 0))) (some (.bsl i (Nat.add o (Nat.mul (oget lo 0) size)) (Nat.sub n (oget lo 0)) (some (Nat.sub c (oget lo 0))))) (some (.sl .no []))) none
        | none=>cond (Nat.beq (oget lo 0) 0 || !(Nat.ble n (oget lo 0))) (some (.bsl i (Nat.add o (Nat.mul (oget lo 0) size)) (Nat.sub n (oget lo 0)) none)) none) none=some r:=h
      obtain ⟨g1,g2⟩:=cond_none g
      have k1:=ble_t g1
      rcases hlo with ⟨rfl,rfl⟩ | ⟨k,q,rfl,rfl⟩
      · cases c with
        | none =>
          have g3:(some (W.bsl i (Nat.add o (Nat.mul 0 size)) (Nat.sub n 0) none))=some r:=g2
          cases g3
          refine ⟨hn,?_⟩
          have e:Nat.add o (Nat.mul 0 size)=o:=by show o + 0 * size=o; omega
          rw [e]; exact mk o n none c' hn (fun x h=>by cases h)
        | some c =>
          have ec:=hc c rfl; subst ec
          obtain ⟨g4,g5⟩:=cond_none g2
          have g3:(some (W.bsl i (Nat.add o (Nat.mul 0 size)) (Nat.sub n 0) (some (Nat.sub c 0))))=some r:=g5
          cases g3
          refine ⟨hn,?_⟩
          have e:Nat.add o (Nat.mul 0 size)=o:=by show o + 0 * size=o; omega
          rw [e]; exact mk o n _ c hn (fun x h=>by cases h; rfl)
      · have k1:q≤n:=k1
        simp only [vslc,Int.toNat_natCast]
        cases c with
        | none =>
          obtain ⟨g4,g5⟩:=cond_none g2
          have g4:(Nat.beq q 0 || !(Nat.ble n q))=true:=g4
          rw [beq_dec,ble_dec] at g4
          have k2:q=0 ∨ q < n:=by simpa [Nat.not_le] using g4
          cases g5
          rw [if_pos (by omega)]
          exact ⟨⟨by omega,k1,hn⟩,mk _ _ none _ (by show n - q≤c' - q; omega) (fun x h=>by cases h)⟩
        | some c =>
          have ec:=hc c rfl; subst ec
          obtain ⟨g4,g5⟩:=cond_none g2
          cases e:(Nat.beq q 0 || !(Nat.ble c q))
          · have g6:cond (Nat.beq q 0 || !(Nat.ble c q)) _ (some (W.sl .no []))=some r:=g5
            rw [e] at g6
            cases g6
            rw [beq_dec,ble_dec] at e
            have k2:¬ q=0∧c≤q:=by simpa using e
            rw [if_neg (by omega)]
            exact ⟨⟨by omega,k1,hn⟩,RL.nil.mkSl .no⟩
          · have g6:cond (Nat.beq q 0 || !(Nat.ble c q)) (some (W.bsl i (Nat.add o (Nat.mul q size)) (Nat.sub n q) (some (Nat.sub c q)))) (some (W.sl .no []))=some r:=g5
            rw [e] at g6
            cases g6
            rw [beq_dec,ble_dec] at e
            have k2:q=0 ∨ q < c:=by simpa [Nat.not_le] using e
            rw [if_pos (by omega)]
            exact ⟨⟨by omega,k1,hn⟩,mk _ _ _ _ (by show n - q≤c - q; omega) (fun x h=>by cases h; rfl)⟩
    · have g:cond (Nat.ble (oget lo 0) n') (match c with
        | some c=>cond (Nat.ble n' c) (cond (Nat.beq (oget lo 0) 0 || !(Nat.ble c (oget lo 0))) (some (.bsl i (Nat.add o (Nat.mul (oget lo 0) size)) (Nat.sub n' (oget lo 0)) (some (Nat.sub c (oget lo 0))))) none) none
        | none=>cond (Nat.ble n' n) (cond (Nat.beq (oget lo 0) 0 || !(Nat.ble n (oget lo 0))) (some (.bsl i (Nat.add o (Nat.mul (oget lo 0) size)) (Nat.sub n' (oget lo 0)) none)) none) none) none=some r:=h
      obtain ⟨g1,g2⟩:=cond_none g
      have k1:=ble_t g1
      have key:∃ c2,n'≤c'∧(oget lo 0=0 ∨ oget lo 0 < c')∧(∀ x,c2=some x→x=c' - oget lo 0)∧r=.bsl i (o + oget lo 0 * size) (n' - oget lo 0) c2:=by
        cases c with
        | none =>
          obtain ⟨g3,g4⟩:=cond_none g2
          obtain ⟨g5,g6⟩:=cond_none g4
          rw [beq_dec,ble_dec] at g5
          have k2:oget lo 0=0 ∨ oget lo 0 < n:=by simpa [Nat.not_le] using g5
          have k3:=ble_t g3
          cases g6
          exact ⟨none,by omega,by omega,fun x h=>(by cases h),rfl⟩
        | some c =>
          have ec:=hc c rfl; subst ec
          obtain ⟨g3,g4⟩:=cond_none g2
          obtain ⟨g5,g6⟩:=cond_none g4
          rw [beq_dec,ble_dec] at g5
          have k2:oget lo 0=0 ∨ oget lo 0 < c:=by simpa [Nat.not_le] using g5
          have k3:=ble_t g3
          cases g6
          exact ⟨some (c - oget lo 0),k3,k2,fun x h=>(by cases h; rfl),rfl⟩
      obtain ⟨c2,k2,k3,k4,rfl⟩:=key
      rcases hlo with ⟨rfl,rfl⟩ | ⟨k,q,rfl,rfl⟩
      · have e:o + oget none 0 * size=o:=by show o + 0 * size=o; omega
        rw [e]
        simp only [vslc,Int.toNat_natCast]
        exact ⟨⟨by omega,k2⟩,mk o _ c2 c' (by show n' - 0≤c'; omega) k4⟩
      · simp only [vslc,Int.toNat_natCast]
        have k1:q≤n':=k1
        have k3:q=0 ∨ q < c':=k3
        exact ⟨⟨by omega,by omega,k2,by omega⟩,mk _ _ c2 _ (by show n' - q≤c' - q; omega) k4⟩
  | _=>cases h
theorem unO_R (h:R ρ a a'):R ρ (unO a) a':=by
  cases h with
  | osl i j n b c' h hj hn=>exact .bsl i 0 n b c' none h hn (fun x e=>by cases e)
  | und=>exact .und
  | any=>exact .any _
  | int k n=>exact .int k n
  | bool b=>exact .bool b
  | str l h=>exact .str l h
  | nilp=>exact .nilp
  | ptr i o b h=>exact .ptr i o b h
  | ep cs vs off hl h=>exact .ep cs vs off hl h
  | sl t t' l m ht hl h=>exact .sl t t' l m ht hl h
  | bsl i o n b c' c h hn hc=>exact .bsl i o n b c' c h hn hc
  | nilm=>exact .nilm
  | map i b h=>exact .map i b h
  | nili=>exact .nili
  | iface t w v h h1=>exact .iface t w v h h1
  | nilf=>exact .nilf
  | func f first cap a b hl h kl k h1=>exact .func f first cap a b hl h kl k h1
  | agg cs vs hl h=>exact .agg cs vs hl h
  | tup cs vs hl h=>exact .tup cs vs hl h
  | sy k i j m s ne c h hb hn=>exact .sy k i j m s ne c h hb hn
  | opq i c h hl hb=>exact .opq i c h hl hb
  | sstr l L hB hl h=>exact .sstr l L hB hl h
theorem oB_V (hA:EnR ρ A A') {x:Option X} {y:Option Nat} (h:oB A x=some y):(x.map (fun x=>x.ev A')=none∧y=none) ∨ ∃ k n,x.map (fun x=>x.ev A')=some (.sc (.int k (n:Nat)))∧y=some n:=by
  rcases oB_R hA h with ⟨rfl,rfl⟩ | ⟨x0,k,n,rfl,rfl,h1⟩
  · exact .inl ⟨rfl,rfl⟩
  · exact .inr ⟨k,n,by rw [Option.map_some,h1],rfl⟩
theorem slc_R (hA:EnR ρ A A') {size:Nat} {x:X} {lo hi:Option X} (h:eslcO size (some ((cX x).f A)) (oB A lo) (oB A hi)=some r):(vslc size (x.ev A') (lo.map fun x=>x.ev A') (hi.map fun x=>x.ev A')).1∧R ρ r (vslc size (x.ev A') (lo.map fun x=>x.ev A') (hi.map fun x=>x.ev A')).2:=by
  cases hl:oB A lo with
  | none=>rw [hl] at h; cases h
  | some l=>cases hh:oB A hi with
    | none=>rw [hl,hh] at h; cases h
    | some u =>
      rw [hl,hh] at h
      exact slcB_R (x:=unO ((cX x).f A)) h (unO_R (hA.ev x)) (oB_V hA hl) (oB_V hA hh)
theorem slcA_R (hA:EnR ρ A A') {n size:Nat} {x:X} {lo hi:Option X} (h:eslcA n size (some ((cX x).f A)) (oB A lo) (oB A hi)=some r):(vslcA n size (x.ev A') (lo.map fun x=>x.ev A') (hi.map fun x=>x.ev A')).1∧R ρ r (vslcA n size (x.ev A') (lo.map fun x=>x.ev A') (hi.map fun x=>x.ev A')).2:=by
  have hx:=hA.ev x
  generalize (cX x).f A=w at h hx
  cases w with
  | ptr i o =>
    obtain ⟨b,hb,e⟩:=hx.ptr_inv
    rw [e]
    have g:eslcO size (some (.bsl i o n (some n))) (oB A lo) (oB A hi)=some r:=h
    cases hl:oB A lo with
    | none=>rw [hl] at g; cases g
    | some l=>cases hh:oB A hi with
      | none=>rw [hl,hh] at g; cases g
      | some u =>
        rw [hl,hh] at g
        exact slcB_R (x:=.bsl i o n (some n)) g (.bsl i o n b n (some n) hb (Nat.le_refl _) (fun x h=>by cases h; rfl)) (oB_V hA hl) (oB_V hA hh)
  | _=>cases h
theorem sslc_R (hA:EnR ρ A A') {x:X} {lo hi:Option X} (h:esslc (some ((cX x).f A)) (oB A lo) (oB A hi)=some r):(vsslc (x.ev A') (lo.map fun x=>x.ev A') (hi.map fun x=>x.ev A')).1∧R ρ r (vsslc (x.ev A') (lo.map fun x=>x.ev A') (hi.map fun x=>x.ev A')).2:=by
  have hx:=hA.ev x
  generalize (cX x).f A=w at h hx
  cases hl:oB A lo with
  | none=>rw [hl] at h; cases w <;> cases h
  | some l=>cases hh:oB A hi with
    | none=>rw [hl,hh] at h; cases w <;> cases h
    | some u =>
      rw [hl,hh] at h
      cases w with
      | str q =>
        obtain ⟨hB,e⟩:=hx.str_inv
        rw [e]
        have g:cond (Nat.ble (oget l 0) (oget u (llen q)) && Nat.ble (oget u (llen q)) (llen q)) (some (.str (ldrop (ltake q (oget u (llen q))) (oget l 0)))) none=some r:=h
        obtain ⟨g1,g2⟩:=cond_none g
        obtain ⟨g3,g4⟩:=and_t g1
        have k1:=ble_t g3
        have k2:=ble_t g4
        rw [llen_eq] at k1 k2
        cases g2
        rw [ldrop_eq,ltake_eq,llen_eq]
        have fin:∀ i j,R ρ (.str ((q.take j).drop i)) (.sc (.string ((strOf q).extract i j))):=fun i j=>by
          rw [strOf_ext]; exact .str _ fun x hx=>hB x (List.mem_of_mem_take (List.mem_of_mem_drop hx))
        have hsz:=strOf_size q
        rcases oB_V hA hl with ⟨e1,rfl⟩ | ⟨k,n,e1,rfl⟩ <;> rcases oB_V hA hh with ⟨e2,rfl⟩ | ⟨k',n',e2,rfl⟩ <;> rw [e1,e2] <;> simp only [vsslc,Int.toNat_natCast,hsz]
        · exact ⟨trivial,fin _ _⟩
        · exact ⟨⟨by omega,k2⟩,fin _ _⟩
        · exact ⟨⟨by omega,k1⟩,fin _ _⟩
        · exact ⟨⟨by omega,by have:n≤n':=k1; omega,k2⟩,fin _ _⟩
      | _=>cases h
theorem slc3_R (hA:EnR ρ A A') {size:Nat} {x hi mx:X} {lo:Option X} (h:eslc3 size (some ((cX x).f A)) (oB A lo) (some ((cX hi).f A)) (some ((cX mx).f A))=some r) :
    (vslc3 size (x.ev A') (lo.map fun x=>x.ev A') (hi.ev A') (mx.ev A')).1∧R ρ r (vslc3 size (x.ev A') (lo.map fun x=>x.ev A') (hi.ev A') (mx.ev A')).2:=by
  have hx:=hA.ev x
  have hh:=hA.ev hi
  have hm:=hA.ev mx
  generalize (cX x).f A=w at h hx
  generalize (cX hi).f A=wh at h hh
  generalize (cX mx).f A=wm at h hm
  unfold eslc3 at h
  split at h
  · rename_i t l lo0 k1 u k2 m e1 e2 e3 e4
    cases e1; cases e3; cases e4
    obtain ⟨t',l',e,ht,hl⟩:=hx.sl_inv
    obtain ⟨g1,g2⟩:=cond_none h
    obtain ⟨g3,g4⟩:=and_t g1
    obtain ⟨g5,g6⟩:=and_t g3
    obtain ⟨g7,g8⟩:=and_t g5
    have q1:=ble_t g7
    have q2:=ble_t g8
    have q3:=ble_t g6
    obtain ⟨_,q4,_⟩:=allS_R g4 hl
    rw [llen_eq,hl.len] at q3
    cases g2
    rw [e,hh.int_inv,hm.int_inv]
    have etk:RT ρ (cond (Nat.beq u m) .full .no) (if (Int.ofNat u)=(Int.ofNat m) then .full else .no):=by
      rw [beq_dec]
      by_cases e:u=m
      · subst e; rw [decide_eq_true rfl,if_pos rfl]; exact .full
      · rw [decide_eq_false e,if_neg (fun h=>e (Int.ofNat.inj h))]; exact .no
    rw [ldrop_eq,ltake_eq]
    rcases oB_V hA e2 with ⟨e5,rfl⟩ | ⟨k,n,e5,rfl⟩ <;> rw [e5] <;> simp only [vslc3]
    · exact ⟨⟨q4,by rw [nat_inv]; omega,by rw [nat_inv,nat_inv]; omega,q3⟩,(hl.take _).mkSl etk⟩
    · exact ⟨⟨q4,by omega,by rw [nat_inv]; have:n≤u:=q1; omega,by rw [nat_inv,nat_inv]; omega,q3⟩,((hl.take _).drop _).mkSl etk⟩
  · rename_i i o n c lo0 k1 u k2 m e1 e2 e3 e4
    cases e1; cases e3; cases e4
    obtain ⟨b,c',hb,hn,hc,e⟩:=hx.bsl_inv
    have ec:=hc c rfl; subst ec
    obtain ⟨g1,g2⟩:=cond_none h
    obtain ⟨g3,g4⟩:=and_t g1
    obtain ⟨g5,g6⟩:=and_t g3
    obtain ⟨g7,g8⟩:=and_t g5
    have q1:=ble_t g7
    have q2:=ble_t g8
    have q3:=ble_t g6
    rw [beq_dec,ble_dec] at g4
    have q4:oget lo0 0=0 ∨ oget lo0 0 < m:=by simpa [Nat.not_le] using g4
    cases g2
    rw [e,hh.int_inv,hm.int_inv]
    rcases oB_V hA e2 with ⟨e5,rfl⟩ | ⟨k,q,e5,rfl⟩ <;> rw [e5] <;> simp only [vslc3]
    · refine ⟨⟨by rw [nat_inv]; omega,by rw [nat_inv,nat_inv]; omega,q3⟩,?_⟩
      have e6:Nat.add o (Nat.mul (oget none 0) size)=o:=by show o + 0 * size=o; omega
      rw [e6]
      exact .bsl i o u b m _ hb q2 (fun x h=>by cases h; rfl)
    · exact ⟨⟨by omega,by rw [nat_inv]; have:q≤u:=q1; omega,by rw [nat_inv,nat_inv]; omega,q3,by rw [nat_inv]; have:q=0 ∨ q < m:=q4; omega⟩,.bsl i _ _ b _ _ hb (by show u - q≤m - q; omega) (fun x h=>by cases h; rfl)⟩
  · cases h
theorem wone_R (hw:wone a=true) (h:R ρ a a'):a'.cells.length=1:=by
  cases h <;> first | rfl | cases hw
theorem RL.sub {l:List W} {m:List V} (h:RL ρ l m) {off n:Nat} (hn:off + n≤l.length) (sp:List V):RL ρ ((l.drop off).take n) (((m ++ sp).drop off).take n):=by
  have e:=h.len
  have e2:((m ++ sp).drop off).take n=(m.drop off).take n:=by
    rw [List.drop_append,List.take_append,show n - (m.drop off).length=0 by rw [List.length_drop]; omega,List.take_zero,List.append_nil]
  rw [e2]; exact (h.drop _).take _
theorem take_R {cs:List W} {cs' sp:List V} {off:Nat} {n:Option Nat} (h:etake cs off n=some r) (hc:RL ρ cs cs') (hm:mono (cs' ++ sp)):(takeB (cs' ++ sp) off n).1∧R ρ r (takeB (cs' ++ sp) off n).2:=by
  cases n with
  | none =>
    have g:oe (lget cs off) none etake1=some r:=h
    obtain ⟨c,hc1,g1⟩:=oe_none g
    obtain ⟨g2,g3⟩:=bi_none g1
    cases g3
    rw [lget_eq] at hc1
    obtain ⟨v,hv,hr⟩:=hc.get hc1
    have e:(cs' ++ sp)[off]?=some v:=by rw [List.getElem?_append_left (List.getElem?_eq_some_iff.1 hv).1]; exact hv
    simp only [takeB,takeV,e]
    exact ⟨wone_R g2 hr,hr⟩
  | some n =>
    have g:bi (Nat.ble (Nat.add off n) (llen cs)) (some (.agg (ltake (ldrop cs off) n))) none=some r:=h
    obtain ⟨g1,g2⟩:=bi_none g
    have q:=ble_t g1
    rw [llen_eq] at q
    have q:off + n≤cs.length:=q
    cases g2
    rw [ltake_eq,ldrop_eq]
    have:=hc.len
    exact ⟨⟨by show off + n≤(cs' ++ sp).length; rw [List.length_append]; omega,hm⟩,(hc.sub q sp).mkAgg⟩
theorem takeV_R {cs:List W} {cs':List V} {off:Nat} {n:Option Nat} (h:etake cs off n=some r) (hc:RL ρ cs cs'):(takeV cs' off n).1∧R ρ r (takeV cs' off n).2:=by
  cases n with
  | none =>
    have g:oe (lget cs off) none etake1=some r:=h
    obtain ⟨c,hc1,g1⟩:=oe_none g
    obtain ⟨g2,g3⟩:=bi_none g1
    cases g3
    rw [lget_eq] at hc1
    obtain ⟨v,hv,hr⟩:=hc.get hc1
    simp only [takeV,hv]
    exact ⟨wone_R g2 hr,hr⟩
  | some n =>
    have g:bi (Nat.ble (Nat.add off n) (llen cs)) (some (.agg (ltake (ldrop cs off) n))) none=some r:=h
    obtain ⟨g1,g2⟩:=bi_none g
    have q:=ble_t g1
    rw [llen_eq,hc.len] at q
    cases g2
    rw [ltake_eq,ldrop_eq]
    exact ⟨q,((hc.drop _).take _).mkAgg⟩
theorem Sim.cells (hS:Sim s0 ρ H st) {i b:Nat} {o:Option (Nat × Nat)} {cs:List W} (hb:ρ i=some b) (hg:H.get i=.cells o cs):s0.box b=none∧b < st.sz∧∃ vs sp,st.box b=some (vs ++ sp)∧RL ρ cs vs∧mono (vs ++ sp)∧CapR ρ vs.length sp o:=by
  have h:=hS.bx i b hb
  rw [hg] at h
  obtain ⟨h1,h2,ds,h3,h4⟩:=h
  cases h4 with
  | cells _ _ vs sp h hm he=>exact ⟨h1,h2,vs,sp,h3,h,hm,he⟩
theorem Sim.mp (hS:Sim s0 ρ H st) {i b c:Nat} {ag:Bool} {lf:List Lf} {es:Es} (hb:ρ i=some b) (hg:H.get i=.mp ag lf es c):∃ es',st.box b=some [.mp ag lf es' c]∧RE ρ es es'∧∀ e ∈ es,ekOk ag lf e.1=true:=by
  have h:=hS.bx i b hb
  rw [hg] at h
  obtain ⟨h1,h2,ds,h3,h4⟩:=h
  cases h4 with
  | mp _ _ _ es' _ h hk=>exact ⟨es',h3,h,hk⟩
theorem xC_some {x:Bx} {f:Option (Nat × Nat)→List W→Option W} (h:xC x none f=some r):∃ o cs,x=.cells o cs∧f o cs=some r:=by
  cases x <;> first | exact ⟨_,_,rfl,h⟩ | cases h
theorem load_R (hS:Sim s0 ρ H st) {n:Option Nat} (h:eload H n a=some r) (ha:R ρ a a'):(vload st n a').1∧R ρ r (vload st n a').2:=by
  cases a with
  | ptr i o =>
    obtain ⟨b,hb,rfl⟩:=ha.ptr_inv
    have g:xC (H.get i) none (fun _ cs=>etake cs o n)=some r:=h
    obtain ⟨_,cs,hg,g1⟩:=xC_some g
    obtain ⟨_,_,vs,sp,h3,h4,hm,_⟩:=hS.cells hb hg
    simp only [vload,h3]
    exact take_R g1 h4 hm
  | ep cs off =>
    obtain ⟨l,rfl,hl⟩:=ha.ep_inv
    exact takeV_R (show etake cs off n=some r from h) hl
  | _=>cases h
theorem flat_R:∀ {l:List W} {m:List V},RL ρ l m→(∀ d ∈ l,d ≠ .any)→RL ρ (flatW l) (m.flatMap V.cells)
  | [],m,h,_=>by cases h.nil_inv; exact .nil
  | a :: l,m,h,hn=>by
    obtain ⟨b1,m2,rfl,r1,hl2⟩:=h.cons_inv
    exact (r1.cells (hn a (by simp))).append (flat_R hl2 fun d hd=>hn d (List.mem_cons_of_mem _ hd))
theorem ne_any {size:Nat} (h0:size ≠ 0) {l:List W} (h:∀ d ∈ l,d.cells.length=size):∀ d ∈ l,d ≠ .any:=fun d hd e=>by
  subst e; exact h0 (h _ hd).symm
theorem s2a_R {n size:Nat} (h:es2a H n size a=some r) (ha:R ρ a a'):(vs2a n size a').1∧R ρ r (vs2a n size a').2:=by
  unfold es2a at h
  split at h
  · obtain ⟨t,l,rfl,ht,hl⟩:=ha.sl_inv
    obtain ⟨g1,g2⟩:=cond_none h
    obtain ⟨g3,g4⟩:=and_t g1
    obtain ⟨g5,g6⟩:=and_t g3
    obtain ⟨k0,k1,k2⟩:=allS_R g5 hl
    have q1:=ble_t g6
    have q2:=ble_t g4
    rw [llen_eq,hl.len] at q1 q2
    cases g2
    exact ⟨⟨k1,q1,q2⟩,(flat_R hl (ne_any k0 k2)).mkEp⟩
  · obtain ⟨b,c',hb,hn,hc,rfl⟩:=ha.bsl_inv
    obtain ⟨g1,g2⟩:=cond_none h
    cases g2
    exact ⟨ble_t g1,.ptr _ _ b hb⟩
  · cases h
theorem b2sB_R (hS:Sim s0 ρ H st) (h:eb2sB H a=some r) (ha:R ρ a a'):(vb2sB st a').1∧R ρ r (vb2sB st a').2:=by
  unfold eb2sB at h
  split at h
  · rename_i i o n c
    obtain ⟨b,c',hb,hn,hc,rfl⟩:=ha.bsl_inv
    split at h
    · rename_i _ cs hg
      obtain ⟨_,_,vs,sp,h3,h4,hm,_⟩:=hS.cells hb hg
      obtain ⟨g1,g2⟩:=cond_none h
      have q:=ble_t g1
      rw [llen_eq] at q
      have q:o + n≤cs.length:=q
      split at g2
      · rename_i l hl
        rw [ltake_eq,ldrop_eq] at hl
        obtain ⟨k1,k2⟩:=u8W_R hl (h4.sub q sp)
        cases g2
        have:=h4.len
        simp only [vb2sB,h3,k1]
        exact ⟨⟨by rw [List.length_append]; omega,hm⟩,.str _ k2⟩
      · rw [ltake_eq,ldrop_eq] at g2
        obtain ⟨L,k1,k2⟩:=syStr_R g2 (h4.sub q sp)
        have:=h4.len
        simp only [vb2sB,h3,k1]
        exact ⟨⟨by rw [List.length_append]; omega,hm⟩,k2⟩
    · cases h
  · cases h
end
end Ev
end
section
namespace Ev
open Go
section
variable {ρ:Rn} {a b r k v:W} {a' b' k' v':V} {s0:S0} {st:St} {H:Hp} {ag:Bool} {lf:List Lf}
theorem eeq_tot:∀ (lf:List Lf) {l m:List W},(∃ q,eeq lf l l=some q)→(∃ q,eeq lf m m=some q)→∃ q,eeq lf l m=some q:=by
  have kr:∀ k:IntKind,keq k k=true:=by intro k; cases k <;> rfl
  intro lf
  induction lf with
  | nil =>
    intro l m ⟨q,h⟩ ⟨q',h'⟩
    cases l with
    | nil=>cases m with
      | nil=>exact ⟨true,rfl⟩
      | cons=>cases h'
    | cons=>cases h
  | cons x lf ih =>
    intro l m ⟨q,h⟩ ⟨q',h'⟩
    cases l with
    | nil=>cases x <;> cases h
    | cons a l=>cases m with
      | nil=>cases x <;> cases h'
      | cons b m =>
        cases x with
        | int kk =>
          cases a with
          | int k1 x1=>cases b with
            | int k2 x2 =>
              have g:cond (keq kk k1 && keq kk k1) (match eeq lf l l with | some r=>some (ieq x1 x1 && r) | none=>none) none=some q:=h
              have g':cond (keq kk k2 && keq kk k2) (match eeq lf m m with | some r=>some (ieq x2 x2 && r) | none=>none) none=some q':=h'
              obtain ⟨g1,g2⟩:=cond_none g
              obtain ⟨g3,g4⟩:=cond_none g'
              obtain ⟨z,hz⟩:=ih (l:=l) (m:=m) (by cases e:eeq lf l l with | none=>rw [e] at g2; cases g2 | some z=>exact ⟨z,rfl⟩) (by cases e:eeq lf m m with | none=>rw [e] at g4; cases g4 | some z=>exact ⟨z,rfl⟩)
              refine ⟨ieq x1 x2 && z,?_⟩
              show cond (keq kk k1 && keq kk k2) (match eeq lf l m with | some r=>some (ieq x1 x2 && r) | none=>none) none=_
              rw [(and_t g1).1,(and_t g3).1,hz]; rfl
            | _=>cases h'
          | _=>cases h
        | bool =>
          cases a with
          | bool x1=>cases b with
            | bool x2 =>
              have g:(match eeq lf l l with | some r=>some (beqb x1 x1 && r) | none=>none)=some q:=h
              have g':(match eeq lf m m with | some r=>some (beqb x2 x2 && r) | none=>none)=some q':=h'
              obtain ⟨z,hz⟩:=ih (l:=l) (m:=m) (by cases e:eeq lf l l with | none=>rw [e] at g; cases g | some z=>exact ⟨z,rfl⟩) (by cases e:eeq lf m m with | none=>rw [e] at g'; cases g' | some z=>exact ⟨z,rfl⟩)
              refine ⟨beqb x1 x2 && z,?_⟩
              show (match eeq lf l m with | some r=>some (beqb x1 x2 && r) | none=>none)=_
              rw [hz]
            | _=>cases h'
          | _=>cases h
        | str =>
          cases a with
          | str x1=>cases b with
            | str x2 =>
              have g:(match eeq lf l l with | some r=>some (leq x1 x1 && r) | none=>none)=some q:=h
              have g':(match eeq lf m m with | some r=>some (leq x2 x2 && r) | none=>none)=some q':=h'
              obtain ⟨z,hz⟩:=ih (l:=l) (m:=m) (by cases e:eeq lf l l with | none=>rw [e] at g; cases g | some z=>exact ⟨z,rfl⟩) (by cases e:eeq lf m m with | none=>rw [e] at g'; cases g' | some z=>exact ⟨z,rfl⟩)
              refine ⟨leq x1 x2 && z,?_⟩
              show (match eeq lf l m with | some r=>some (leq x1 x2 && r) | none=>none)=_
              rw [hz]
            | _=>cases h'
          | _=>cases h
theorem key_R (h:ekOk ag lf k=true) (hk:R ρ k k'):kOk ag lf k'∧RL ρ k.cells k'.cells∧∃ q,eeq lf k.cells k.cells=some q:=by
  have some_of:∀ {l:List W},(match eeq lf l l with | some _=>true | none=>false)=true→∃ q,eeq lf l l=some q:=fun {l} h=>by
    cases e:eeq lf l l with
    | none=>rw [e] at h; cases h
    | some q=>exact ⟨q,rfl⟩
  cases k with
  | agg cs =>
    obtain ⟨l,rfl,hl⟩:=hk.agg_inv
    obtain ⟨h1,h2⟩:=and_t (show (ag && (match eeq lf cs cs with | some _=>true | none=>false))=true from h)
    obtain ⟨q,hq⟩:=some_of h2
    exact ⟨⟨h1,(eq_R lf hq hl hl).1⟩,hl,q,hq⟩
  | int kd n =>
    cases hk.int_inv
    obtain ⟨h1,h2⟩:=and_t (show (!ag && (match eeq lf [.int kd n] [.int kd n] with | some _=>true | none=>false))=true from h)
    obtain ⟨q,hq⟩:=some_of h2
    have hl:RL ρ [.int kd n] [.sc (.int kd n)]:=.cons (.int kd n) .nil
    exact ⟨⟨by simpa using h1,(eq_R lf hq hl hl).1⟩,hl,q,hq⟩
  | str l =>
    obtain ⟨hB,rfl⟩:=hk.str_inv
    obtain ⟨h1,h2⟩:=and_t (show (!ag && (match eeq lf [.str l] [.str l] with | some _=>true | none=>false))=true from h)
    obtain ⟨q,hq⟩:=some_of h2
    have hl:RL ρ [.str l] [.sc (.string (strOf l))]:=.cons (.str l hB) .nil
    exact ⟨⟨by simpa using h1,(eq_R lf hq hl hl).1⟩,hl,q,hq⟩
  | _=>cases h
theorem keq_R (hk:ekOk ag lf k=true) (ha:ekOk ag lf a=true) (rk:R ρ k k') (ra:R ρ a a'):ekeq lf k a=eqV k'.cells a'.cells:=by
  obtain ⟨_,h1,h2⟩:=key_R hk rk
  obtain ⟨_,h3,h4⟩:=key_R ha ra
  obtain ⟨q,hq⟩:=eeq_tot lf h2 h4
  unfold ekeq
  rw [hq]
  exact (eq_R lf hq h1 h3).2.2.symm
theorem RE.nil_inv {es':List (V × V × Nat)} (h:RE ρ [] es'):es'=[]:=List.eq_nil_of_length_eq_zero h.len.symm
theorem RE.cons_inv {e:W × W × Nat} {es:Es} {es':List (V × V × Nat)} (h:RE ρ (e :: es) es'):∃ e' t',es'=e' :: t'∧R ρ e.1 e'.1∧R ρ e.2.1 e'.2.1∧e.2.2=e'.2.2∧RE ρ es t':=by
  cases es' with
  | nil=>have:=h.len; simp at this
  | cons e' t' =>
    obtain ⟨h1,h2,h3⟩:=h.at_ 0 e e' rfl rfl
    exact ⟨e',t',rfl,h1,h2,h3,by have:=h.len; simpa using this,fun i x y hx hy=>h.at_ (i + 1) x y (by simpa using hx) (by simpa using hy)⟩
theorem RE.nil:RE ρ [] []:=⟨rfl,fun i x y h=>by simp at h⟩
theorem RE.cons {e:W × W × Nat} {e':V × V × Nat} {es:Es} {es':List (V × V × Nat)} (h1:R ρ e.1 e'.1) (h2:R ρ e.2.1 e'.2.1) (h3:e.2.2=e'.2.2) (h:RE ρ es es'):RE ρ (e :: es) (e' :: es'):=⟨by simp [h.len],fun i x y hx hy=>by
  cases i with
  | zero=>simp at hx hy; subst hx; subst hy; exact ⟨h1,h2,h3⟩
  | succ i=>exact h.at_ i x y (by simpa using hx) (by simpa using hy)⟩
theorem find_R (hk:ekOk ag lf k=true) (rk:R ρ k k'):∀ {es:Es} {es':List (V × V × Nat)},RE ρ es es'→(∀ e ∈ es,ekOk ag lf e.1=true)→∀ c:Nat,
    match emfind lf k es with
    | some x=>∃ y,mfind k' es'=some y∧R ρ x.1 y∧mborn k' c es'=x.2
    | none=>mfind k' es'=none∧mborn k' c es'=c
  | [],es',h,_,c=>by cases h.nil_inv; exact ⟨rfl,rfl⟩
  | e :: es,es',h,he,c=>by
    obtain ⟨e',t',rfl,r1,r2,r3,ht⟩:=h.cons_inv
    have hq:=keq_R hk (he e (by simp)) rk r1
    have ih:=find_R hk rk ht (fun x hx=>he x (List.mem_cons_of_mem _ hx)) c
    unfold emfind mfind mborn
    cases hc:ekeq lf k e.1
    · rw [hc] at hq
      simp only [cond_false,← hq,Bool.false_eq_true,↓reduceIte]
      exact ih
    · rw [hc] at hq
      simp only [cond_true,← hq,↓reduceIte]
      exact ⟨_,rfl,r2,r3.symm⟩
theorem set_R (hk:ekOk ag lf k=true) (rk:R ρ k k') (rv:R ρ v v') (c:Nat):∀ {es:Es} {es':List (V × V × Nat)},RE ρ es es'→(∀ e ∈ es,ekOk ag lf e.1=true)→RE ρ (emset lf k v c es) (mset k' v' c es')∧∀ e ∈ emset lf k v c es,ekOk ag lf e.1=true
  | [],es',h,_=>by cases h.nil_inv; exact ⟨.cons rk rv rfl .nil,fun e he=>by cases List.mem_singleton.1 he; exact hk⟩
  | e :: es,es',h,he=>by
    obtain ⟨e',t',rfl,r1,r2,r3,ht⟩:=h.cons_inv
    have hq:=keq_R hk (he e (by simp)) rk r1
    obtain ⟨i1,i2⟩:=set_R hk rk rv c ht (fun x hx=>he x (List.mem_cons_of_mem _ hx))
    unfold emset mset
    cases hc:ekeq lf k e.1
    · rw [hc] at hq
      simp only [cond_false,← hq,Bool.false_eq_true,↓reduceIte]
      exact ⟨.cons r1 r2 r3 i1,fun x hx=>(List.mem_cons.1 hx).elim (fun q=>by subst q; exact he x (by simp)) (i2 x)⟩
    · rw [hc] at hq
      simp only [cond_true,← hq,↓reduceIte]
      exact ⟨.cons rk rv r3 ht,fun x hx=>(List.mem_cons.1 hx).elim (fun q=>by subst q; exact hk) fun q=>he x (List.mem_cons_of_mem _ q)⟩
theorem del_R (hk:ekOk ag lf k=true) (rk:R ρ k k'):∀ {es:Es} {es':List (V × V × Nat)},RE ρ es es'→(∀ e ∈ es,ekOk ag lf e.1=true)→RE ρ (emdel lf k es) (mdel k' es')∧∀ e ∈ emdel lf k es,ekOk ag lf e.1=true
  | [],es',h,_=>by cases h.nil_inv; exact ⟨.nil,fun e he=>by cases he⟩
  | e :: es,es',h,he=>by
    obtain ⟨e',t',rfl,r1,r2,r3,ht⟩:=h.cons_inv
    have hq:=keq_R hk (he e (by simp)) rk r1
    obtain ⟨i1,i2⟩:=del_R hk rk ht (fun x hx=>he x (List.mem_cons_of_mem _ hx))
    unfold emdel mdel
    cases hc:ekeq lf k e.1
    · rw [hc] at hq
      simp only [cond_false,← hq,Bool.false_eq_true,↓reduceIte]
      exact ⟨.cons r1 r2 r3 i1,fun x hx=>(List.mem_cons.1 hx).elim (fun q=>by subst q; exact he x (by simp)) (i2 x)⟩
    · rw [hc] at hq
      simp only [cond_true,← hq,↓reduceIte]
      exact ⟨ht,fun x hx=>he x (List.mem_cons_of_mem _ hx)⟩
theorem stamp_R (s:Nat) (rv:R ρ v v'):∀ {es:Es} {es':List (V × V × Nat)},RE ρ es es'→(∀ e ∈ es,ekOk ag lf e.1=true)→RE ρ (emstamp s v es) (mstamp s v' es')∧∀ e ∈ emstamp s v es,ekOk ag lf e.1=true
  | [],es',h,_=>by cases h.nil_inv; exact ⟨.nil,fun e he=>by cases he⟩
  | e :: es,es',h,he=>by
    obtain ⟨e',t',rfl,r1,r2,r3,ht⟩:=h.cons_inv
    obtain ⟨i1,i2⟩:=stamp_R s rv ht (fun x hx=>he x (List.mem_cons_of_mem _ hx))
    unfold emstamp mstamp
    rw [beq_dec,r3]
    by_cases hc:e'.2.2=s
    · rw [decide_eq_true hc,if_pos hc,cond_true]
      exact ⟨.cons r1 rv rfl ht,fun x hx=>(List.mem_cons.1 hx).elim (fun q=>by subst q; exact he e (by simp)) fun q=>he x (List.mem_cons_of_mem _ q)⟩
    · rw [decide_eq_false hc,if_neg hc,cond_false]
      exact ⟨.cons r1 r2 r3 i1,fun x hx=>(List.mem_cons.1 hx).elim (fun q=>by subst q; exact he x (by simp)) (i2 x)⟩
theorem born_R (s:Nat):∀ {es:Es} {es':List (V × V × Nat)} {e:W × W × Nat},RE ρ es es'→eborn s es=some e→∃ e' ∈ es',e'.2.2=s∧R ρ e.1 e'.1∧R ρ e.2.1 e'.2.1∧∀ p:V × V × Nat→Bool,(∀ x,p x=decide (x.2.2=s))→es'.find? p=some e'
  | [],es',e,h,he=>by cases he
  | x :: es,es',e,h,he=>by
    obtain ⟨e',t',rfl,r1,r2,r3,ht⟩:=h.cons_inv
    unfold eborn at he
    rw [beq_dec] at he
    by_cases hc:x.2.2=s
    · rw [decide_eq_true hc,cond_true] at he
      cases he
      exact ⟨e',by simp,by rw [← r3]; exact hc,r1,r2,fun p hp=>by rw [List.find?_cons,hp,decide_eq_true (by rw [← r3]; exact hc)]⟩
    · rw [decide_eq_false hc,cond_false] at he
      obtain ⟨y,hy,h1,h2,h3,h4⟩:=born_R s ht he
      exact ⟨y,List.mem_cons_of_mem _ hy,h1,h2,h3,fun p hp=>by rw [List.find?_cons,hp,decide_eq_false (by rw [← r3]; exact hc)]; exact h4 p hp⟩
theorem lfeq_eq:∀ {l m:List Lf},lfeq l m=true→l=m
  | [],[],_=>rfl
  | [],x :: m,h=>by cases x <;> cases h
  | x :: l,[],h=>by cases x <;> cases h
  | x :: l,y :: m,h=>by
    cases x <;> cases y <;> first | (cases h; done) | skip
    · obtain ⟨h1,h2⟩:=and_t h
      rw [keq_eq h1,lfeq_eq h2]
    · rw [lfeq_eq (l:=l) (m:=m) h]
    · rw [lfeq_eq (l:=l) (m:=m) h]
theorem mkOk_t {ag':Bool} {lf':List Lf} (h:mkOk ag ag' lf lf' k=true):ag=ag'∧lf=lf'∧ekOk ag lf k=true:=by
  obtain ⟨h1,h2⟩:=and_t h
  obtain ⟨h3,h4⟩:=and_t h1
  rw [beqb_eq] at h3
  exact ⟨by simpa using h3,lfeq_eq h4,h2⟩
theorem mlk_R (hS:Sim s0 ρ H st) {z:V} {ok:Bool} (h:emlk H ag lf (Ev.ofV z) ok a k=some r) (ha:R ρ a a') (hk:R ρ k k'):(vmlk st.box ag lf z ok a' k').1∧R ρ r (vmlk st.box ag lf z ok a' k').2:=by
  have hz:R ρ (Ev.ofV z) z:=R.ofV z
  generalize Ev.ofV z=zw at h hz
  cases a with
  | nilm =>
    cases ha
    obtain ⟨g1,g2⟩:=cond_none (show cond (ekOk ag lf k) (some (cond ok (.tup [zw,.bool false]) zw)) none=some r from h)
    cases g2
    refine ⟨(key_R g1 hk).1,?_⟩
    cases ok
    · exact hz
    · exact (RL.cons hz (.cons (.bool _) .nil)).mkTup
  | map i =>
    obtain ⟨b,hb,rfl⟩:=ha.map_inv
    cases hg:H.get i with
    | mp ag' lf' es c =>
      have g:(match H.get i with | .mp ag' lf' es _=>cond (mkOk ag ag' lf lf' k) (match emfind lf k es with
        | some r=>some (cond ok (.tup [r.1,.bool true]) r.1)
        | none=>some (cond ok (.tup [zw,.bool false]) zw)) none | _=>none)=some r:=h
      rw [hg] at g
      obtain ⟨g1,g2⟩:=cond_none g
      obtain ⟨e1,e2,hok⟩:=mkOk_t g1
      subst e1; subst e2
      obtain ⟨es',h3,hE,hK⟩:=hS.mp hb hg
      have hf:=find_R hok hk hE hK c
      have hkk:=(key_R hok hk).1
      simp only [vmlk,h3]
      refine ⟨⟨by trivial,by trivial,hkk⟩,?_⟩
      cases e:emfind lf k es with
      | none =>
        rw [e] at hf g2
        rw [hf.1]
        cases g2
        cases ok
        · exact hz
        · exact (RL.cons hz (.cons (.bool _) .nil)).mkTup
      | some x =>
        rw [e] at hf g2
        obtain ⟨y,hy,hxy,_⟩:=hf
        rw [hy]
        cases g2
        cases ok
        · exact hxy
        · exact (RL.cons hxy (.cons (.bool _) .nil)).mkTup
    | _ =>
      have g:(match H.get i with | .mp ag' lf' es _=>cond (mkOk ag ag' lf lf' k) (match emfind lf k es with
        | some r=>some (cond ok (.tup [r.1,.bool true]) r.1)
        | none=>some (cond ok (.tup [zw,.bool false]) zw)) none | _=>none)=some r:=h
      rw [hg] at g; cases g
  | _=>cases h
theorem mlen_R (hS:Sim s0 ρ H st) (h:emlen H a=some r) (ha:R ρ a a'):(vmlen st.box a').1∧R ρ r (vmlen st.box a').2:=by
  unfold emlen at h
  split at h
  · cases ha; cases h; exact ⟨trivial,.int _ _⟩
  · obtain ⟨b,hb,rfl⟩:=ha.map_inv
    split at h
    · rename_i ag lf es c hg
      obtain ⟨es',h3,hE,hK⟩:=hS.mp hb hg
      cases h
      simp only [vmlen,h3]
      refine ⟨trivial,?_⟩
      rw [llen_eq,hE.len]; exact .int _ _
    · cases h
  · cases h
theorem llast_eq:∀ l:List Nat,llast l=l.getLast?
  | []=>rfl
  | [a]=>rfl
  | a :: b :: l=>by
    show llast (b :: l)=_
    rw [llast_eq (b :: l)]; rfl
theorem Sim.it (hS:Sim s0 ρ H st) {i b since last:Nat} {seen:List Nat} {m:Option Nat} (hb:ρ i=some b) (hg:H.get i=.it m since seen last):(m=none∧st.box b=some [.it none since seen last]) ∨ ∃ j c,m=some j∧ρ j=some c∧st.box b=some [.it (some c) since seen last]:=by
  have h:=hS.bx i b hb
  rw [hg] at h
  obtain ⟨h1,h2,ds,h3,h4⟩:=h
  cases h4 with
  | it0=>exact .inl ⟨rfl,h3⟩
  | it j c _ _ _ hc=>exact .inr ⟨j,c,rfl,hc,h3⟩
theorem ent_R (hS:Sim s0 ρ H st) (h:eent H a=some r) (ha:R ρ a a'):(vent st.box a').1∧R ρ r (vent st.box a').2:=by
  unfold eent at h
  split at h
  · rename_i i
    obtain ⟨b,hb,rfl⟩:=ha.ptr_inv
    split at h
    · rename_i j since seen last hg
      rcases hS.it hb hg with ⟨e,_⟩ | ⟨j',c',e,hc,hbx⟩
      · cases e
      cases e
      split at h
      · rename_i ag lf es c hg2
        obtain ⟨es',h3,hE,hK⟩:=hS.mp hc hg2
        split at h
        · rename_i s hs
          split at h
          · rename_i e he
            obtain ⟨g1,g2⟩:=cond_none h
            cases g2
            obtain ⟨e',_,_,r1,r2,hf⟩:=born_R s hE he
            rw [llast_eq] at hs
            have:=hf (fun e=>some e.2.2 == seen.getLast?) (fun x=>by
              rw [hs,Bool.eq_iff_iff]; simp)
            simp only [vent,hbx,h3,this]
            exact ⟨beq_t g1,(RL.cons r1 (.cons r2 .nil)).mkTup⟩
          · cases h
        · cases h
      · cases h
    · cases h
  · cases h
theorem allE_R:∀ {l:List W} {m:List V},allE l=true→RL ρ l m→∃ q,allSc m=some q∧q.length=l.length∧(∀ (i:Nat) (c:W) (v:Value),l[i]?=some c→q[i]?=some v→R ρ c (.sc v))∧∀ v ∈ q,v.oneCell'=true
  | [],m,h,hl=>by cases hl.nil_inv; exact ⟨[],rfl,rfl,fun i c v h=>by simp at h,fun v h=>by cases h⟩
  | a :: l,m,h,hl=>by
    obtain ⟨b1,m2,rfl,r1,hl2⟩:=hl.cons_inv
    obtain ⟨h1,h2⟩:=and_t h
    obtain ⟨v,rfl,hv⟩:=r1.sc_inv h1
    obtain ⟨q,k1,k2,k3,k4⟩:=allE_R h2 hl2
    refine ⟨v :: q,by show (allSc m2).map _=_; rw [k1]; rfl,by simp [k2],fun i c u hc hu=>?_,fun u hu=>(List.mem_cons.1 hu).elim (fun e=>by rw [e]; exact hv) (k4 u)⟩
    cases i with
    | zero=>simp at hc hu; subst hc; subst hu; exact r1
    | succ i=>exact k3 i c u (by simpa using hc) (by simpa using hu)
theorem mfn_R {f:FuncId} {l m:List W} {l' m':List V} (h:emfn f l m=some r) (hl:RL ρ l l') (hm:RL ρ m m'):(vmfn (.func f) l' m').1∧R ρ r (vmfn (.func f) l' m').2:=by
  obtain ⟨h1,h2⟩:=cond_none h
  obtain ⟨h3,h4⟩:=and_t h1
  obtain ⟨q,k1,k2,k3,k4⟩:=allE_R h3 hl
  obtain ⟨q',j1,j2,j3,j4⟩:=allE_R h4 hm
  cases h2
  simp only [vmfn,k1,j1]
  exact ⟨trivial,.func f l m q q' k2.symm k3 j2.symm j3 (fun v hv=>(List.mem_append.1 hv).elim (k4 v) (j4 v))⟩
end
end Ev
end
section
open Go
variable {size:Nat} {base s s':St} {r x:V} {l l':List V}
end
section
namespace Ev
open Go
section
variable {ρ:Rn} {a b r w:W} {a' b':V} {s0:S0} {st:St} {H H':Hp} {A:En} {A':Nat→V} {P:Program} {K:V→St→Prop}
theorem bi_ok {c:Bool} {x:Ro} {l:List Nat} (h:bi c x (.bad l)=.ok w H'):c=true∧x=.ok w H':=by
  cases c
  · cases h
  · exact ⟨rfl,h⟩
theorem of_ok {x:Option W} (h:Ro.of x H=.ok w H'):x=some w∧H'=H:=by
  cases x with
  | none=>cases h
  | some y=>cases h; exact ⟨rfl,rfl⟩
theorem oe_ok {α:Type} {o:Option α} {l:List Nat} {f:α→Ro} (h:oe o (.bad l) f=.ok w H'):∃ x,o=some x∧f x=.ok w H':=by
  cases o
  · cases h
  · exact ⟨_,rfl,h⟩
theorem ob_of (hne:a ≠ .any) (h:R ρ a a'):a'.ob=false:=by
  cases h <;> first | rfl | exact absurd rfl hne
theorem mono_R {l:List W} {m sp:List V} (hl:RL ρ l m) (h:mk1 l=true) (h0:l=[]→mono sp):mono (m ++ sp):=by
  match l,hl,h,h0 with
  | [],hl,_,h0=>cases hl.nil_inv; exact h0 rfl
  | [x],hl,h,_ =>
    obtain ⟨b1,m2,rfl,r1,hl2⟩:=hl.cons_inv
    cases hl2.nil_inv
    cases sp with
    | nil=>exact ob_of (fun e=>by subst e; cases h) r1
    | cons y sp=>exact mono_len (by simp)
  | x :: y :: l,hl,_,_ =>
    have:=hl.len
    refine mono_len ?_
    simp only [List.length_cons,List.length_append] at this ⊢
    omega
theorem mono_R0 {l:List W} {m:List V} (hl:RL ρ l m) (h:mk1 l=true):mono m:=by
  have:=mono_R (sp:=[]) hl h (fun _=>trivial)
  rwa [List.append_nil] at this
def Go1 (s0:S0) (ρ:Rn) (H':Hp) (w:W) (K:V→St→Prop):Prop:=∀ ρ' v st',ρ.le ρ'→Sim s0 ρ' H' st'→R ρ' w v→K v st'
theorem Rn.rfl':ρ.le ρ:=fun _ _ h=>h
theorem newBox_K (hS:Sim s0 ρ H st) {x:Bx} {k:Nat→Hp→Ro} {w0:Nat→W} (h:H.new x k=.ok w H') (hk:∀ i H,k i H=.ok (w0 i) H) (hkd:x.kd=2) (hK:Go1 s0 ρ H' w K) {b:Nat} (hb:st.box b=none) {cs:List V} {v:V} (hx:∀ ρ':Rn,ρ.le ρ'→RB ρ' x cs) (hv:∀ (ρ':Rn) (i:Nat),ρ.le ρ'→ρ' i=some b→R ρ' (w0 i) v):K v (st.put b cs):=by
  obtain ⟨ht,h1⟩:=Hp.new_some h
  rw [hk] at h1
  cases h1
  have hle:=hS.le b
  exact hK _ _ _ hle (hS.newBox ht hb hkd (hx _ hle)) (hv _ H.2 hle (by simp [Rn.add]))
theorem box_K (hS:Sim s0 ρ H st) (h:ebox a H=.ok w H') (ha:R ρ a a') (hK:Go1 s0 ρ H' w K):a'.cells.length ≠ 0∧∀ b,st.box b=none→K (ptrV b) (st.put b a'.cells):=by
  unfold ebox at h
  split at h
  · cases h
  · rename_i hne
    obtain ⟨h1,h2⟩:=bi_ok h
    have han:a ≠ .any:=fun e=>by subst e; exact hne rfl
    have hc:=ha.cells han
    have hlen:a.cells.length ≠ 0:=fun e=>hne (List.length_eq_zero_iff.1 e)
    refine ⟨by rw [← hc.len]; exact hlen,fun b hb=>?_⟩
    have hm:=mono_R0 hc h1
    refine newBox_K hS h2 (w0:=fun i=>.ptr i 0) (fun _ _=>rfl) rfl hK hb (fun ρ' hle=>?_) fun ρ' i hle hi=>.ptr i 0 b hi
    have:=RB.cells (ρ:=ρ') none a.cells a'.cells [] (hc.mono hle) (by rw [List.append_nil]; exact hm) rfl
    rwa [List.append_nil] at this
theorem alc_K (hS:Sim s0 ρ H st) {z:List V} (h:ealc (Ev.ofCs z) H=.ok w H') (hK:Go1 s0 ρ H' w K) {b:Nat} (hb:st.box b=none):K (ptrV b) (st.put b z):=by
  obtain ⟨h1,h2⟩:=bi_ok h
  have hc:=RL.ofCs (ρ:=ρ) z
  have hm:=mono_R0 hc h1
  refine newBox_K hS h2 (w0:=fun i=>.ptr i 0) (fun _ _=>rfl) rfl hK hb (fun ρ' hle=>?_) fun ρ' i hle hi=>.ptr i 0 b hi
  have:=RB.cells (ρ:=ρ') none _ z [] (hc.mono hle) (by rw [List.append_nil]; exact hm) rfl
  rwa [List.append_nil] at this
theorem allLen_sz {size:Nat} {m:List V} (h:allSz size m):allLen size m:=allLen_of h
theorem bslo_K (hS:Sim s0 ρ H st) {hint:Bool} {size:Nat} {l:List W} {m:List V} (h:ebslo hint size l H=.ok w H') (hl:RL ρ l m) (hK:Go1 s0 ρ H' w K) :
    allLen size m∧((∀ g,st.sz≤g→K (.sl (.own g size) m) (st.use g m.length)) ∨ ∀ b,st.sz≤b→K (.sc (.slice (some ⟨b,0,none⟩) m.length m.length)) (st.put b (m.flatMap V.cells))):=by
  obtain ⟨h1,h2⟩:=bi_ok h
  obtain ⟨k0,k1,k2⟩:=allS_R h1 hl
  refine ⟨allLen_sz k1,?_⟩
  cases hint
  · refine .inl fun g hg=>?_
    rw [bi_f] at h2
    obtain ⟨ht,h3⟩:=Hp.new_some h2
    cases h3
    have hle:=hS.le g
    rw [llen_eq,hl.len] at hK
    exact hK _ _ _ hle (hS.useRow ht hg) ((hl.mono hle).mkSl (.own _ _ g (by simp [Rn.add])))
  · refine .inr fun b hb=>?_
    rw [bi_t] at h2
    obtain ⟨h3,h4⟩:=bi_ok h2
    have hf:=flat_R hl (ne_any k0 k2)
    have hm:=mono_R0 hf h3
    refine newBox_K hS h4 (w0:=fun i=>.bsl i 0 (llen l) (some (llen l))) (fun _ _=>rfl) rfl hK (hS.nobox hb) (fun ρ' hle=>?_) fun ρ' i hle hi=>?_
    · have:=RB.cells (ρ:=ρ') none _ _ [] (hf.mono hle) (by rw [List.append_nil]; exact hm) rfl
      rwa [List.append_nil] at this
    · rw [llen_eq,hl.len]
      exact .bsl i 0 m.length b m.length _ hi (Nat.le_refl _) (fun x h=>by cases h; rfl)
theorem okM_t {bytes n:Nat} (h:okM bytes n=true):(bytes:Int) * (n:Int)≤281474976710656∧(n:Int)≤9223372036854775807:=by
  obtain ⟨h1,h2⟩:=and_t h
  have q1:=ble_t h1
  have q2:bytes * n≤281474976710656:=ble_t h2
  exact ⟨by have:((bytes * n:Nat):Int)≤281474976710656:=by omega
            simpa using this,by omega⟩
theorem flatten_R {l:List W} {m:List V} (h:RL ρ l m):∀ n:Nat,RL ρ (List.replicate n l).flatten (List.replicate n m).flatten
  | 0=>.nil
  | n + 1=>by
    rw [List.replicate_succ,List.replicate_succ,List.flatten_cons,List.flatten_cons]
    exact h.append (flatten_R h n)
theorem mks_K (hS:Sim s0 ρ H st) {size bytes:Nat} {z:List V} (h:emks bytes (Ev.ofCs z) a H=.ok w H') (ha:R ρ a a') (hK:Go1 s0 ρ H' w K):vmks size bytes z a' st K:=by
  unfold emks at h
  split at h
  · rename_i k n
    cases ha.int_inv
    obtain ⟨h1,h2⟩:=bi_ok h
    obtain ⟨h3,h4⟩:=and_t h1
    obtain ⟨q1,q2⟩:=okM_t h3
    have hf:=flatten_R (RL.ofCs (ρ:=ρ) z) n
    have hm:=mono_R0 hf h4
    refine ⟨by rw [nat_inv]; omega,q1,q2,fun b hb=>?_⟩
    rw [nat_inv,Int.toNat_natCast]
    refine newBox_K hS h2 (w0:=fun i=>.bsl i 0 n (some n)) (fun _ _=>rfl) rfl hK (hS.nobox hb) (fun ρ' hle=>?_) fun ρ' i hle hi=>.bsl i 0 n b n _ hi (Nat.le_refl _) (fun x h=>by cases h; rfl)
    have:=RB.cells (ρ:=ρ') none _ _ [] (hf.mono hle) (by rw [List.append_nil]; exact hm) rfl
    rwa [List.append_nil] at this
  · cases h
theorem mko_K (hS:Sim s0 ρ H st) {hint:Bool} {size bytes:Nat} {z:List V} (h:emko hint size bytes (Ev.ofCs z) a H=.ok w H') (ha:R ρ a a') (hK:Go1 s0 ρ H' w K):vmko size bytes z a' st K:=by
  unfold emko at h
  split at h
  · rename_i k n
    cases ha.int_inv
    obtain ⟨h1,h2⟩:=bi_ok h
    obtain ⟨q1,q2⟩:=okM_t h1
    refine ⟨by rw [nat_inv]; omega,q1,q2,?_⟩
    cases hint
    · refine .inl fun g hg=>?_
      rw [bi_f] at h2
      obtain ⟨ht,h3⟩:=Hp.new_some h2
      cases h3
      have hle:=hS.le g
      exact hK _ _ _ hle (hS.useRow ht hg) (RL.nil.mkSl (.own _ _ g (by simp [Rn.add])))
    · refine .inr fun b hb=>?_
      rw [bi_t] at h2
      obtain ⟨h3,h4⟩:=bi_ok h2
      have hf:=flatten_R (RL.ofCs (ρ:=ρ) z) n
      have hm:=mono_R0 hf h3
      rw [nat_inv,Int.toNat_natCast]
      refine newBox_K hS h4 (w0:=fun i=>.bsl i 0 0 (some n)) (fun _ _=>rfl) rfl hK (hS.nobox hb) (fun ρ' hle=>?_) fun ρ' i hle hi=>.bsl i 0 0 b n _ hi (Nat.zero_le _) (fun x h=>by cases h; rfl)
      have:=RB.cells (ρ:=ρ') none _ _ [] (hf.mono hle) (by rw [List.append_nil]; exact hm) rfl
      rwa [List.append_nil] at this
  · cases h
theorem xC_ok {x:Bx} {l:List Nat} {f:Option (Nat × Nat)→List W→Ro} (h:xC x (.bad l) f=.ok w H'):∃ o cs,x=.cells o cs∧f o cs=.ok w H':=by
  cases x <;> first | exact ⟨_,_,rfl,h⟩ | cases h
theorem wP_ok {x:W} {l:List Nat} {f:Nat→Nat→Ro} (h:wP x (.bad l) f=.ok w H'):∃ i o,x=.ptr i o∧f i o=.ok w H':=by
  cases x <;> first | exact ⟨_,_,rfl,h⟩ | cases h
theorem splice_app {cs sp ds:List V} {off:Nat} (h:off + ds.length≤cs.length):splice (cs ++ sp) off ds=splice cs off ds ++ sp:=by
  unfold splice
  rw [List.take_append_of_le_length (by omega),List.drop_append_of_le_length (by omega)]
  simp only [List.append_assoc]
theorem splice_len {cs ds:List V} {off:Nat} (h:off + ds.length≤cs.length):(splice cs off ds).length=cs.length:=by
  simp only [splice,List.length_append,List.length_take,List.length_drop]; omega
theorem upCells_K (hS:Sim s0 ρ H st) {i b:Nat} {o:Option (Nat × Nat)} {cs q:List W} {sp:List V} {m:List V} (hb:ρ i=some b) (hg:H.get i=.cells o cs) (hq:RL ρ q m) (hm:mono (m ++ sp)) (he:CapR ρ m.length sp o) {v:V} {w:W} (hK:Go1 s0 ρ (H.up i (.cells o q)) w K) (hv:R ρ w v):K v (st.put b (m ++ sp)) :=
  hK ρ v _ Rn.rfl' (hS.upBox hb (by rw [hg]; rfl) rfl (.cells o q m sp hq hm he)) hv
theorem store_K (hS:Sim s0 ρ H st) {n:Nat} (h:estore n a b H=.ok w H') (ha:R ρ a a') (hb:R ρ b b') (hK:Go1 s0 ρ H' w K):vstore n a' b' st (K .und):=by
  obtain ⟨i,o,rfl,h1⟩:=wP_ok h
  obtain ⟨qo,cs,hg,h2⟩:=xC_ok h1
  obtain ⟨h3,h4⟩:=bi_ok h2
  have h4':bi (Nat.beq n 0) (Ro.bad []) (oe (esplice cs o b.cells) (Ro.bad []) fun r=>bi (mk1 r) (H.put i (.cells qo r) fun H=>Ro.ok .und H) (Ro.bad [5041]))=Ro.ok w H':=h4
  cases hn:Nat.beq n 0 with
  | true=>rw [hn] at h4'; cases h4'
  | false =>
    rw [hn] at h4'
    obtain ⟨q,hq,h5⟩:=oe_ok h4'
    obtain ⟨h6,h7⟩:=bi_ok h5
    have hn0:n ≠ 0:=fun e=>by subst e; cases hn
    obtain ⟨bb,hbb,rfl⟩:=ha.ptr_inv
    obtain ⟨_,_,vs,sp,e3,e4,hm,he⟩:=hS.cells hbb hg
    obtain ⟨k1,k2⟩:=hb.cellsN (beq_t h3) hn0
    obtain ⟨f1,f2⟩:=splice_R hq e4 k2
    rw [Hp.put_eq] at h7
    cases h7
    simp only [vstore,e3]
    have hmm:mono (splice vs o b'.cells ++ sp):=mono_R f2 h6 (fun e=>by
      subst e
      have hz:=f2.nil_inv
      have:=congrArg List.length hz
      simp only [splice,List.length_append,List.length_take,List.length_drop,List.length_nil] at this
      omega)
    refine ⟨k1,by omega,by rw [List.length_append]; omega,hm,?_⟩
    rw [splice_app f1]
    exact upCells_K hS hbb hg f2 hmm (by rw [splice_len f1]; exact he) hK .und
theorem okN_t {bytes n:Nat} (h:okN bytes n=true):n≤maxLen∧n * bytes≤140737488355328:=by
  obtain ⟨h1,h2⟩:=and_t h
  have q1:=ble_t h1
  exact ⟨by unfold maxLen; omega,ble_t h2⟩
theorem appRow_K (hS:Sim s0 ρ H st) {size:Nat} {x:V} {l ys:List W} {l' ys':List V} {r':V} {st':St} (hl:RL ρ l l') (hy:RL ρ ys ys') (h0:l' ++ ys' ≠ []) (hO:Own size st' r' (l' ++ ys')) (hA:AppSt st x st' r')
    (hx:(∀ g k l,x ≠ .sl (.own g k) l) ∨ ∃ g b k l,x=.sl (.own b k) l∧ρ g=some b∧H.get g=.no∧(∀ j c,ρ j=some c→(H.get j).kd=1→c ≠ b)∧s0.own b=none)
    (ht:H.2 < 262144) (hK:Go1 s0 ρ ⟨set6' (pl H.2) H.1 (.row (llen (l ++ ys))),H.2 + 1⟩ (.sl (.own H.2 size) (l ++ ys)) K):K r' st':=by
  have hlen:llen (l ++ ys)=(l' ++ ys').length:=by rw [llen_eq,(hl.append hy).len]
  rcases hO with ⟨_,e⟩ | ⟨g2,rfl,e2,hg2⟩
  · exact absurd e h0
  have hs0:=hS.sz0
  have keep:∀ c q,st.own c=some q→(∀ j,ρ j=some c→(H.get j).kd=1)→(∃ j,ρ j=some c) ∨ s0.own c=some q→st'.own c=some q:=fun c q hc hj hh=>by
    refine hA.own c q hc fun l0 k0 e=>?_
    rcases hx with hx | ⟨g,b,k,l1,e1,hgb,hgn,hne,hb0⟩
    · exact hx _ _ _ e
    · rw [e1] at e; cases e
      have:=hj g hgb
      rw [hgn] at this; cases this
  have hle:=hS.le g2
  rw [hlen] at hK
  refine hK _ _ _ hle (hS.newRow ht hA.sz (hS.lt.app hA) hA.box (fun c m hc=>?_) (fun j c hj hk=>?_) (fun j hj hk=>?_) e2 ?_) (((hl.append hy).mono hle).mkSl (.own _ _ g2 (by simp [Rn.add])))
  · refine hA.own c m (hS.own0 c m hc) fun l0 k0 e=>?_
    rcases hx with hx | ⟨g,b,k,l1,e1,hgb,hgn,hne,hb0⟩
    · exact hx _ _ _ e
    · rw [e1] at e; cases e; rw [hb0] at hc; cases hc
  · have hb:=hS.bx j c hj
    cases hh:H.get j with
    | row m =>
      rw [hh] at hb
      rw [hb.2.2]
      refine hA.own c m hb.2.2 fun l0 k0 e=>?_
      rcases hx with hx | ⟨g,b,k,l1,e1,hgb,hgn,hne,hb0⟩
      · exact hx _ _ _ e
      · rw [e1] at e; cases e; exact hne j _ hj hk rfl
    | _=>rw [hh] at hk; cases hk
  · rcases hA.tok g2 size _ rfl with ⟨l0,e⟩ | hge
    · rcases hx with hx | ⟨g,b,k,l1,e1,hgb,hgn,hne,hb0⟩
      · exact hx _ _ _ e
      · rw [e1] at e; cases e; exact hne j _ hj hk rfl
    · have:=(hS.bx j g2 hj).low (by omega); omega
  · rcases hA.tok g2 size _ rfl with ⟨l0,e⟩ | hge
    · rcases hx with hx | ⟨g,b,k,l1,e1,hgb,hgn,hne,hb0⟩
      · exact absurd e (hx _ _ _)
      · rw [e1] at e; cases e; exact hb0
    · cases e:s0.own g2 with
      | none=>rfl
      | some q=>have:=hS.lt0.own _ _ e; omega
theorem flatW_len {size:Nat}:∀ {ys:List W},(∀ d ∈ ys,d.cells.length=size)→(flatW ys).length=ys.length * size
  | [],_=>by simp [flatW]
  | x :: ys,h=>by
    have:=flatW_len (ys:=ys) (fun d hd=>h d (List.mem_cons_of_mem _ hd))
    have hx:=h x (by simp)
    simp only [flatW,List.flatMap_cons,List.length_append,List.length_cons] at this ⊢
    rw [this,hx,Nat.add_mul]; omega
theorem grow_K (hS:Sim s0 ρ H st) {i b size n:Nat} {cs ys:List W} {vs sp ys':List V} {b' cap':Nat} {spare:List V} (hb:ρ i=some b) (hkd:(H.get i).kd=2) (h:eappG size i n cs ys H=.ok w H') (hc:RL ρ cs vs) (hy:RL ρ ys ys') {k0:size ≠ 0} (k2:∀ d ∈ ys,d.cells.length=size)
    (hn:n * size≤vs.length) (j1:b'=b ∨ st.sz≤b') (j2:n + ys'.length≤cap') (j3:cap'≤maxLen) (j4:(n + ys'.length) * size + spare.length=cap' * size) (jmo:mono ((vs ++ sp).take (n * size) ++ ys'.flatMap V.cells ++ spare)) (hK:Go1 s0 ρ H' w K) :
    K (.sc (.slice (some ⟨b',0,none⟩) (n + ys'.length) cap')) (st.put b' ((vs ++ sp).take (n * size) ++ ys'.flatMap V.cells ++ spare)):=by
  unfold eappG at h
  cases htop:Nat.ble 262143 H.2 with
  | true=>rw [htop] at h; cases h
  | false =>
    rw [htop,bi_f,Hp.kill_eq] at h
    have ht2:=ble_f htop
    obtain ⟨ht,h1⟩:=Hp.new_some h
    have hlen:=hy.len
    rw [List.take_append_of_le_length hn] at jmo ⊢
    have hSk:=hS.kill hb
    have hin:=hS.nx i b hb
    have hget:∀ j,j < 262144→(H.up i .no).get j=if j=i then .no else H.get j:=fun j hj=>get_up (by omega) hj
    have hbx:=(BxR.box hkd).1 (hS.bx i b hb)
    have hf:=flat_R hy (ne_any k0 k2)
    have hR:RL ρ (ltake cs (Nat.mul n size) ++ flatW ys) (vs.take (n * size) ++ ys'.flatMap V.cells):=by
      rw [ltake_eq]; exact (hc.take _).append hf
    have hnob:∀ j c,ρ j=some c→(((H.up i .no).get j).kd=2)→c ≠ b':=fun j c hj hk e=>by
      subst e
      have hjn:=hS.nx j c hj
      rw [hget j (by omega)] at hk
      by_cases e:j=i
      · rw [if_pos e] at hk; cases hk
      · rw [if_neg e] at hk
        rcases j1 with rfl | j1
        · exact e (hS.inj j i c hj hb (by rw [hk,hkd]) (by omega))
        · have:=(hS.bx j c hj).low (by omega); omega
    have hn0:s0.box b'=none:=by
      rcases j1 with rfl | j1
      · exact hbx.1
      · cases e:s0.box b' with
        | none=>rfl
        | some cs'=>have:=hS.lt0.box _ _ e; have:=hS.sz0; omega
    have hlv:(vs.take (n * size) ++ ys'.flatMap V.cells).length=(n + ys'.length) * size:=by
      rw [← hR.len,List.length_append,ltake_eq,List.length_take]
      have e5:(flatW ys).length=ys'.length * size:=by
        rw [← hlen]; exact flatW_len k2
      have e6:(Nat.mul n size)=n * size:=rfl
      rw [e5,e6,Nat.add_mul,Nat.min_eq_left (by rw [hc.len]; exact hn)]
    have htG:(H.up i .no).2 < 262144:=by show H.2 < _; omega
    have hSg:=hSk.ghost htG cap'
    have hleg:=hSk.le cap'
    have hgk:∀ j,Hp.get ⟨(H.up i .no).1,(H.up i .no).2 + 1⟩ j=(H.up i .no).get j:=fun j=>rfl
    cases h1
    have hp:∀ c,c ≠ b'→(st.put b' (vs.take (n * size) ++ ys'.flatMap V.cells ++ spare)).box c=st.box c:=fun c hc=>put_box_ne hc
    have hr:∀ j c,ρ.add H.2 cap' j=some c→j=H.2 ∨ ρ j=some c:=fun j c e=>by
      simp only [Rn.add] at e
      split at e
      · rename_i k; exact .inl k
      · exact .inr e
    have hno:(H.up i .no).get H.2=.no:=by
      rw [hget _ (by omega),if_neg (by omega)]; exact hS.un _ (Nat.le_refl _) (by omega)
    have hleB:=hSg.le b'
    refine hK _ _ _ (fun j x e=>hleB _ _ (hleg _ _ e)) (hSg.newG (b:=b') ht (by simp only [put_sz]; omega) hS.lt.put (fun c ds hc=>?_) (fun c m hc=>hS.own0 c m hc) (fun j c hj=>⟨fun q=>?_,fun _=>rfl⟩) (fun j hj hk=>?_) ?_) ?_
    · have hne:c ≠ b':=fun e=>by subst e; rw [hn0] at hc; cases hc
      rw [hp c hne]; exact hS.box0 c ds hc
    · rw [hgk] at q
      rcases hr j c hj with rfl | hj'
      · rw [hno] at q; cases q
      · exact hp c (hnob j c hj' q)
    · rw [hgk] at hk
      rcases hr j b' hj with rfl | hj'
      · rw [hno] at hk; cases hk
      · exact hnob j b' hj' hk rfl
    · refine (BxR.box rfl).2 ⟨hn0,by simp only [put_sz]; omega,_,put_box_same,?_⟩
      have hg0:(ρ.add H.2 cap').add (H.2 + 1) b' H.2=some cap':=by
        rw [add_ne _ (by omega),add_self]
      exact .cells (some (size,H.2)) _ _ spare (hR.mono fun j x e=>hleB _ _ (hleg _ _ e)) jmo ⟨cap',hg0,by rw [hlv]; exact j4,j3⟩
    · have hlen':Nat.add n (llen ys)=n + ys'.length:=by rw [llen_eq,hlen]; rfl
      rw [hlen']
      exact .osl _ _ _ b' cap' (add_self _ _ _) ((add_ne _ (by show H.2 ≠ H.2 + 1; omega)).trans (add_self _ _ _)) j2
theorem newbox_K (hS:Sim s0 ρ H st) {size:Nat} {ys:List W} {ys':List V} {b' cap':Nat} {spare:List V} (h:eappNB size ys H=.ok w H') (hy:RL ρ ys ys') (k0:size ≠ 0) (k2:∀ d ∈ ys,d.cells.length=size)
    (j1:st.sz≤b') (j2:ys'.length≤cap') (j3:cap'≤maxLen) (j4:ys'.length * size + spare.length=cap' * size) (jmo:mono (ys'.flatMap V.cells ++ spare)) (hK:Go1 s0 ρ H' w K) :
    K (.sc (.slice (some ⟨b',0,none⟩) ys'.length cap')) (st.put b' (ys'.flatMap V.cells ++ spare)):=by
  unfold eappNB at h
  cases htop:Nat.ble 262143 H.2 with
  | true=>rw [htop] at h; cases h
  | false =>
    rw [htop,bi_f] at h
    have ht2:=ble_f htop
    obtain ⟨ht,h1⟩:=Hp.new_some h
    have hlen:=hy.len
    have hf:=flat_R hy (ne_any k0 k2)
    have hnob:∀ j c,ρ j=some c→((H.get j).kd=2)→c ≠ b':=fun j c hj hk e=>by
      subst e
      have:=(hS.bx j c hj).low (by omega); omega
    have hn0:s0.box b'=none:=by
      cases e:s0.box b' with
      | none=>rfl
      | some cs'=>have:=hS.lt0.box _ _ e; have:=hS.sz0; omega
    have hlv:(ys'.flatMap V.cells).length=ys'.length * size:=by
      rw [← hf.len,← hlen]; exact flatW_len k2
    have htG:H.2 < 262144:=by omega
    have hSg:=hS.ghost htG cap'
    have hleg:=hS.le cap'
    have hgk:∀ j,Hp.get ⟨H.1,H.2 + 1⟩ j=H.get j:=fun j=>rfl
    cases h1
    have hp:∀ c,c ≠ b'→(st.put b' (ys'.flatMap V.cells ++ spare)).box c=st.box c:=fun c hc=>put_box_ne hc
    have hr:∀ j c,ρ.add H.2 cap' j=some c→j=H.2 ∨ ρ j=some c:=fun j c e=>by
      simp only [Rn.add] at e
      split at e
      · rename_i k; exact .inl k
      · exact .inr e
    have hno:H.get H.2=.no:=hS.un _ (Nat.le_refl _) (by omega)
    have hleB:=hSg.le b'
    refine hK _ _ _ (fun j x e=>hleB _ _ (hleg _ _ e)) (hSg.newG (b:=b') ht (by simp only [put_sz]; omega) hS.lt.put (fun c ds hc=>?_) (fun c m hc=>hS.own0 c m hc) (fun j c hj=>⟨fun q=>?_,fun _=>rfl⟩) (fun j hj hk=>?_) ?_) ?_
    · have hne:c ≠ b':=fun e=>by subst e; rw [hn0] at hc; cases hc
      rw [hp c hne]; exact hS.box0 c ds hc
    · rw [hgk] at q
      rcases hr j c hj with rfl | hj'
      · rw [hno] at q; cases q
      · exact hp c (hnob j c hj' q)
    · rw [hgk] at hk
      rcases hr j b' hj with rfl | hj'
      · rw [hno] at hk; cases hk
      · exact hnob j b' hj' hk rfl
    · refine (BxR.box rfl).2 ⟨hn0,by simp only [put_sz]; omega,_,put_box_same,?_⟩
      have hg0:(ρ.add H.2 cap').add (H.2 + 1) b' H.2=some cap':=by
        rw [add_ne _ (by omega),add_self]
      exact .cells (some (size,H.2)) _ _ spare (hf.mono fun j x e=>hleB _ _ (hleg _ _ e)) jmo ⟨cap',hg0,by rw [hlv]; exact j4,j3⟩
    · have hlen':llen ys=ys'.length:=by rw [llen_eq,hlen]
      rw [hlen']
      exact .osl _ _ _ b' cap' (add_self _ _ _) ((add_ne _ (by show H.2 ≠ H.2 + 1; omega)).trans (add_self _ _ _)) j2
theorem app_K (hS:Sim s0 ρ H st) {size bytes:Nat} {ys:List W} {y:V} {ys':List V} (h:eapp size bytes a ys H=.ok w H') (h0:(∃ t l,a=.sl t l)→ys ≠ []) (ha:R ρ a a') (hy:RL ρ ys ys') (hsrc:srcV size st y ys') (hK:Go1 s0 ρ H' w K):vapp size bytes a' y st K:=by
  obtain ⟨h1,h2⟩:=bi_ok h
  obtain ⟨h3,h4⟩:=and_t h1
  obtain ⟨q1,q2⟩:=okN_t h3
  obtain ⟨k0,k1,k2⟩:=allS_R h4 hy
  have hyl:llen ys=ys'.length:=by rw [llen_eq,hy.len]
  rw [hyl] at q1 q2
  cases a with
  | sl t l =>
    obtain ⟨t',l',rfl,hT,hl⟩:=ha.sl_inv
    have hll:wlen (.sl t l)=l'.length:=by show llen l=_; rw [llen_eq,hl.len]
    rw [hll] at q1 q2
    cases t with
    | nil =>
      cases hT
      obtain ⟨g0,g1⟩:=bi_ok (show bi (Nat.beq (llen l) 0) (eappN size ys H) (.bad [5016])=.ok w H' from h2)
      have hl0:=beq_t g0
      rw [llen_eq,hl.len] at hl0
      have hl0:=List.length_eq_zero_iff.1 hl0
      subst hl0
      have hl1:l=[]:=List.length_eq_zero_iff.1 hl.len
      subst hl1
      unfold eappN at g1
      split at g1
      · cases g1
        cases hy.nil_inv
        exact .inr (.inr (.inr (.inr ⟨⟨_,_,rfl⟩,hsrc,hK ρ _ st Rn.rfl' hS (RL.nil.mkSl .nil)⟩)))
      · rename_i hne
        obtain ⟨ht,g7⟩:=Hp.new_some g1
        cases g7
        refine .inl ⟨[],ys',.inl ⟨rfl,rfl⟩,hsrc,k1,q1,q2,fun r' st' hO hA=>?_⟩
        exact appRow_K (l:=[]) hS .nil hy (fun e=>hne (by
          have:=hy.len
          rw [List.nil_append] at e
          rw [e] at this
          exact List.length_eq_zero_iff.1 this)) hO hA (.inl fun g k l e=>by cases e) ht hK
    | own g k =>
      cases hT with
      | own _ _ b hb =>
      have g2:eappO size g k l ys H=.ok w H':=h2
      unfold eappO at g2
      split at g2
      · rename_i m hm
        obtain ⟨g3,g4⟩:=bi_ok g2
        obtain ⟨g5,g6⟩:=and_t g3
        have e1:=beq_t g5
        have e2:=beq_t g6
        subst e2
        rw [llen_eq,hl.len] at e1
        subst e1
        have hbx:=hS.bx g b hb
        rw [hm] at hbx
        obtain ⟨b1,b2,b3⟩:=hbx
        rw [lforce_eq,Hp.kill_eq] at g4
        obtain ⟨ht,g7⟩:=Hp.new_some g4
        cases g7
        have hSk:=hS.kill hb
        have hgn:=hS.nx g b hb
        have htop:=hS.top
        have hget:∀ j,j < 262144→(H.up g .no).get j=if j=g then .no else H.get j:=fun j hj=>get_up (by omega) hj
        have h0:=h0 ⟨_,_,rfl⟩
        refine .inl ⟨l',ys',.inr ⟨b,rfl,b3,b2⟩,hsrc,k1,q1,q2,fun r' st' hO hA=>?_⟩
        exact appRow_K hSk hl hy (fun e=>h0 (by
          have:=(List.append_eq_nil_iff.1 e).2
          have h9:=hy.len
          rw [this] at h9
          exact List.length_eq_zero_iff.1 h9)) hO hA (.inr ⟨g,b,k,l',rfl,hb,by rw [hget g (by omega),if_pos rfl],fun j c hj hk e=>by
            subst e
            have hjn:=hS.nx j c hj
            rw [hget j (by omega)] at hk
            by_cases e:j=g
            · rw [if_pos e] at hk; cases hk
            · rw [if_neg e] at hk
              exact e (hS.inj j g c hj hb (by rw [hk,hm]; rfl) (by omega)),b1⟩) ht hK
      · cases g2
    | full =>
      cases hT
      have g2:eappF size l ys H=.ok w H':=h2
      unfold eappF at g2
      split at g2
      · cases g2
      · rename_i hne
        obtain ⟨g3,g4⟩:=bi_ok g2
        obtain ⟨ht,g7⟩:=Hp.new_some g4
        cases g7
        obtain ⟨_,k3,_⟩:=allS_R g3 hl
        have hpos:0 < ys'.length:=by
          rw [← hy.len]
          cases ys with
          | nil=>exact absurd rfl hne
          | cons=>simp
        refine .inr (.inr (.inr (.inl ⟨l',ys',rfl,k3,hsrc,k1,hpos,q1,q2,fun r' st' hO hA=>?_⟩)))
        exact appRow_K hS hl hy (fun e=>by have:=(List.append_eq_nil_iff.1 e).2; subst this; simp at hpos) hO hA (.inl fun g k l e=>by cases e) ht hK
    | _=>cases h2
  | bsl i o n c =>
    obtain ⟨b,c',hb,hn,hc,rfl⟩:=ha.bsl_inv
    cases c with
    | none=>cases h2
    | some c =>
      have ec:=hc c rfl; subst ec
      have g1:bi (Nat.beq o 0) (eappB size i n c ys H) (.bad [5004])=.ok w H':=h2
      obtain ⟨g2,g3⟩:=bi_ok g1
      have e0:=beq_t g2
      subst e0
      unfold eappB at g3
      split at g3
      · rename_i cs hg
        obtain ⟨g4,g5⟩:=bi_ok g3
        obtain ⟨g6,g7⟩:=and_t g4
        obtain ⟨g8,g11⟩:=and_t g6
        have e1:llen cs=c * size:=beq_t g8
        have e4:=ble_t g7
        rw [llen_eq] at e1
        have e3:=ble_t g11
        obtain ⟨b0,b1,vs,sp,b3,b4,b5,b6⟩:=hS.cells hb hg
        have b6:sp=[]:=b6
        subst b6
        rw [List.append_nil] at b3 b5
        rw [b4.len] at e1
        have hq:wlen (.bsl i 0 n (some c))=n:=rfl
        rw [hq] at q1 q2
        cases hfit:Nat.ble (Nat.add n (llen ys)) c with
        | true =>
          have e2:n + llen ys≤c:=ble_t hfit
          rw [hyl] at e2
          rw [hfit,bi_t] at g5
          obtain ⟨g12,g5⟩:=bi_ok g5
          have hf:=flat_R hy (ne_any k0 k2)
          have hN:Nat.mul (Nat.add n (llen ys)) size=(n + ys'.length) * size:=by rw [hyl]; rfl
          rw [Hp.put_eq,ltake_eq,ldrop_eq,hN,← List.append_assoc] at g5
          have hR:RL ρ (cs.take (Nat.mul n size) ++ flatW ys ++ cs.drop ((n + ys'.length) * size)) (vs.take (n * size) ++ ys'.flatMap V.cells ++ vs.drop ((n + ys'.length) * size)):=((b4.take _).append hf).append (b4.drop _)
          refine .inr (.inl ⟨b,n,c,vs,ys',rfl,b3,e1,b5,hn,by unfold maxLen; omega,hsrc,k1,q1,q2,fun b' cap' spare j1 j2 j3 j4 j5 jmo=>?_⟩)
          obtain ⟨rfl,rfl,rfl⟩:=j5 e2
          cases g5
          refine hK ρ _ _ Rn.rfl' (hS.upBox hb (by rw [hg]; rfl) rfl ?_) ?_
          · have:=RB.cells (ρ:=ρ) none _ _ [] hR (by rw [List.append_nil]; exact jmo) rfl
            rwa [List.append_nil] at this
          · rw [hyl]; exact .bsl i 0 _ _ _ _ hb e2 (fun x h=>by cases h; rfl)
        | false =>
          rw [hfit,bi_f] at g5
          refine .inr (.inl ⟨b,n,c,vs,ys',rfl,b3,e1,b5,hn,by unfold maxLen; omega,hsrc,k1,q1,q2,fun b' cap' spare j1 j2 j3 j4 j5 jmo=>?_⟩)
          have hgr:=fun q1 q2=>grow_K (vs:=vs) (sp:=[]) (k0:=k0) (b':=b') (cap':=cap') (spare:=spare) hS hb (by rw [hg]; rfl) g5 b4 hy k2 q1 j1 j2 j3 j4 q2 hK
          rw [List.append_nil] at hgr
          refine hgr ?_ ?_
          · rw [e1]; exact Nat.mul_le_mul_right _ hn
          · exact jmo
      · cases g3
  | osl i j n =>
    obtain ⟨b,c',hb,hj,hn,rfl⟩:=ha.osl_inv
    have g3:eappP size i j n ys H=.ok w H':=h2
    unfold eappP at g3
    split at g3
    · rename_i size' j' cs hg
      obtain ⟨g4,g5⟩:=bi_ok g3
      obtain ⟨g8,g9⟩:=and_t g4
      obtain ⟨g10,g11⟩:=and_t g8
      have e1:=beq_t g10
      have e2:=beq_t g11
      subst e1; subst e2
      have e3:n * size≤llen cs:=ble_t g9
      obtain ⟨b0,b1,vs,sp,b3,b4,b5,c,b6,b7,b8⟩:=hS.cells hb hg
      rw [hj] at b6; cases b6
      rw [llen_eq,b4.len] at e3
      have hq:wlen (.osl i j n)=n:=rfl
      rw [hq] at q1 q2
      refine .inr (.inl ⟨b,n,c',vs ++ sp,ys',rfl,b3,by rw [List.length_append]; exact b7,b5,hn,b8,hsrc,k1,q1,q2,fun b' cap' spare j1 j2 j3 j4 j5 jmo=>?_⟩)
      exact grow_K (k0:=k0) hS hb (by rw [hg]; rfl) g5 b4 hy k2 e3 j1 j2 j3 j4 jmo hK
    · cases g3
  | _=>cases h2
end
end Ev
end
section
namespace Ev
open Go
section
variable {ρ:Rn} {a b r w k v:W} {a' b' k' v':V} {s0:S0} {st:St} {H H':Hp} {A:En} {A':Nat→V} {P:Program} {K:V→St→Prop} {ag:Bool} {lf:List Lf}
theorem mapBx {H:Hp} {i:Nat} {f:Bool→List Lf→Es→Nat→Ro} {l:List Nat} (h:(match H.get i with | .mp ag' lf' es c=>f ag' lf' es c | _=>Ro.bad l)=Ro.ok w H'):∃ ag' lf' es c,H.get i=.mp ag' lf' es c∧f ag' lf' es c=Ro.ok w H':=by
  cases hg:H.get i <;> rw [hg] at h <;> first | exact ⟨_,_,_,_,rfl,h⟩ | cases h
theorem upMap_K (hS:Sim s0 ρ H st) {i b c:Nat} {es:Es} {es':List (V × V × Nat)} (hb:ρ i=some b) (hk:(H.get i).kd=2) (hE:RE ρ es es') (hK':∀ e ∈ es,ekOk ag lf e.1=true) (hK:Go1 s0 ρ (H.up i (.mp ag lf es c)) w K) (hv:R ρ w v'):K v' (st.put b [.mp ag lf es' c]) :=
  hK ρ v' _ Rn.rfl' (hS.upBox hb hk rfl (.mp ag lf es es' c hE hK')) hv
theorem clk_eq (hk:ekOk ag lf k=true) (rk:R ρ k k') {es:Es} {es':List (V × V × Nat)} (hE:RE ρ es es') (hK:∀ e ∈ es,ekOk ag lf e.1=true) (c:Nat):(match emfind lf k es with | some _=>c | none=>Nat.succ c)=mclk es' k' c:=by
  have hf:=find_R hk rk hE hK c
  cases e:emfind lf k es with
  | none =>
    rw [e] at hf
    simp only [mclk,hf.1]; rfl
  | some x =>
    rw [e] at hf
    obtain ⟨y,hy,_,_⟩:=hf
    simp only [mclk,hy]; rfl
theorem mup_K (hS:Sim s0 ρ H st) (h:emup ag lf a k v H=Ro.ok w H') (ha:R ρ a a') (hk:R ρ k k') (hv:R ρ v v') (hK:Go1 s0 ρ H' w K):vmup ag lf a' k' v' st (K .und):=by
  cases a with
  | map i =>
    obtain ⟨b,hb,rfl⟩:=ha.map_inv
    obtain ⟨ag',lf',es,c,hg,h1⟩:=mapBx (f:=fun ag' lf' es c=>bi (mkOk ag ag' lf lf' k) (H.put i (.mp ag lf (emset lf k v c es) (match emfind lf k es with | some _=>c | none=>Nat.succ c)) fun H=>Ro.ok .und H) (Ro.bad [])) h
    obtain ⟨h2,h3⟩:=bi_ok h1
    obtain ⟨e1,e2,hok⟩:=mkOk_t h2
    subst e1; subst e2
    obtain ⟨es',e3,hE,hEk⟩:=hS.mp hb hg
    rw [Hp.put_eq,clk_eq hok hk hE hEk] at h3
    cases h3
    obtain ⟨i1,i2⟩:=set_R hok hk hv c hE hEk
    simp only [vmup,e3]
    exact ⟨by trivial,by trivial,(key_R hok hk).1,upMap_K hS hb (by rw [hg]; rfl) i1 i2 hK .und⟩
  | _=>cases h
theorem mdel_K (hS:Sim s0 ρ H st) (h:emdelR ag lf a k H=Ro.ok w H') (ha:R ρ a a') (hk:R ρ k k') (hK:Go1 s0 ρ H' w K):vmdel ag lf a' k' st (K (.tup [])):=by
  cases a with
  | nilm =>
    cases ha
    obtain ⟨h1,h2⟩:=bi_ok (show bi (ekOk ag lf k) (Ro.ok (.tup []) H) (Ro.bad [])=Ro.ok w H' from h)
    cases h2
    exact ⟨(key_R h1 hk).1,hK ρ _ st Rn.rfl' hS RL.nil.mkTup⟩
  | map i =>
    obtain ⟨b,hb,rfl⟩:=ha.map_inv
    obtain ⟨ag',lf',es,c,hg,h1⟩:=mapBx (f:=fun ag' lf' es c=>bi (mkOk ag ag' lf lf' k) (H.put i (.mp ag lf (emdel lf k es) c) fun H=>Ro.ok (.tup []) H) (Ro.bad [])) h
    obtain ⟨h2,h3⟩:=bi_ok h1
    obtain ⟨e1,e2,hok⟩:=mkOk_t h2
    subst e1; subst e2
    obtain ⟨es',e3,hE,hEk⟩:=hS.mp hb hg
    rw [Hp.put_eq] at h3
    cases h3
    obtain ⟨i1,i2⟩:=del_R hok hk hE hEk
    simp only [vmdel,e3]
    exact ⟨by trivial,by trivial,(key_R hok hk).1,upMap_K hS hb (by rw [hg]; rfl) i1 i2 hK RL.nil.mkTup⟩
  | _=>cases h
theorem mkm_K (hS:Sim s0 ρ H st) (h:H.new (.mp ag lf [] 0) (fun b H=>Ro.ok (.map b) H)=Ro.ok w H') (hK:Go1 s0 ρ H' w K):∀ b,st.sz≤b→K (.sc (.map (some b))) (st.put b [.mp ag lf [] 0]):=fun b hb =>
  newBox_K hS h (w0:=fun i=>.map i) (fun _ _=>rfl) rfl hK (hS.nobox hb) (fun ρ' hle=>.mp ag lf [] [] 0 .nil (fun e he=>by cases he)) fun ρ' i hle hi=>.map i b hi
theorem rng_K (hS:Sim s0 ρ H st) (h:erng a H=Ro.ok w H') (ha:R ρ a a') (hK:Go1 s0 ρ H' w K):vrng a' st K:=by
  cases a with
  | nilm =>
    cases ha
    exact fun r hr=>newBox_K hS (show H.new (.it none 0 [] 0) (fun r H=>Ro.ok (.ptr r 0) H)=Ro.ok w H' from h) (w0:=fun i=>.ptr i 0) (fun _ _=>rfl) rfl hK (hS.nobox hr) (fun ρ' hle=>.it0 0 0 []) fun ρ' i hle hi=>.ptr i 0 r hi
  | map i =>
    obtain ⟨b,hb,rfl⟩:=ha.map_inv
    obtain ⟨ag',lf',es,c,hg,h1⟩:=mapBx (f:=fun _ _ _ c=>H.new (.it (some i) c [] c) fun r H=>Ro.ok (.ptr r 0) H) h
    obtain ⟨es',e3,hE,hEk⟩:=hS.mp hb hg
    simp only [vrng,e3]
    exact fun r hr=>newBox_K hS h1 (w0:=fun i=>.ptr i 0) (fun _ _=>rfl) rfl hK (hS.nobox hr) (fun ρ' hle=>.it i b c c [] (hle _ _ hb)) fun ρ' i hle hi=>.ptr i 0 r hi
  | _=>cases h
theorem allB_R {s:Nat}:∀ {es:Es} {es':List (V × V × Nat)},allB s es=true→RE ρ es es'→∀ e ∈ es',e.2.2 < s
  | [],es',_,h,e,he=>by cases h.nil_inv; cases he
  | x :: es,es',hb,h,e,he=>by
    obtain ⟨e',t',rfl,r1,r2,r3,ht⟩:=h.cons_inv
    obtain ⟨h1,h2⟩:Nat.ble s x.2.2=false∧allB s es=true:=by
      cases hc:Nat.ble s x.2.2
      · exact ⟨rfl,by simpa [allB,hc] using hb⟩
      · simp [allB,hc] at hb
    rcases List.mem_cons.1 he with rfl | he
    · have:=ble_f h1; omega
    · exact allB_R h2 ht e he
theorem lmem_eq (n:Nat):∀ l:List Nat,lmem n l=decide (n ∈ l)
  | []=>by simp [lmem]
  | a :: l=>by
    unfold lmem
    rw [beq_dec,lmem_eq n l]
    by_cases h:a=n
    · subst h; simp
    · have:n ≠ a:=fun e=>h e.symm
      simp [h,this]
theorem unseen_R {seen:List Nat}:∀ {es:Es} {es':List (V × V × Nat)},RE ρ es es'→RE ρ (eunseen seen es) (es'.filter fun e=>decide (e.2.2 ∉ seen))
  | [],es',h=>by cases h.nil_inv; exact .nil
  | x :: es,es',h=>by
    obtain ⟨e',t',rfl,r1,r2,r3,ht⟩:=h.cons_inv
    unfold eunseen
    rw [lmem_eq,r3,List.filter_cons]
    by_cases hc:e'.2.2 ∈ seen
    · rw [decide_eq_true hc,cond_true,if_neg (by simpa using hc)]
      exact unseen_R ht
    · rw [decide_eq_false hc,cond_false,if_pos (by simpa using hc)]
      exact .cons r1 r2 r3 (unseen_R ht)
theorem nxt_K (hS:Sim s0 ρ H st) (h:enxt a H=Ro.ok w H') (ha:R ρ a a') (hK:Go1 s0 ρ H' w K):vnxt a' st K:=by
  unfold enxt at h
  split at h
  · rename_i i
    obtain ⟨b,hb,rfl⟩:=ha.ptr_inv
    split at h
    · rename_i since seen last hg
      rcases hS.it hb hg with ⟨_,hbx⟩ | ⟨j',c',e,hc,hbx⟩
      · cases h
        simp only [vnxt,hbx]
        exact hK ρ _ st Rn.rfl' hS (RL.cons (.bool _) .nil).mkTup
      · cases e
    · rename_i m since seen last hg
      rcases hS.it hb hg with ⟨e,_⟩ | ⟨j',c',e,hc,hbx⟩
      · cases e
      cases e
      split at h
      · rename_i ag lf es c hg2
        obtain ⟨es',h3,hE,hEk⟩:=hS.mp hc hg2
        have h':bi (allB since es && Nat.ble since last) (match eunseen seen es with
          | []=>Ro.ok (.tup [.bool false]) H
          | [e]=>H.put i (.it (some m) since (seen ++ [e.2.2]) c) fun H=>Ro.ok (.tup [.bool true,e.1,e.2.1]) H
          | _=>Ro.bad [5020]) (Ro.bad [])=Ro.ok w H':=by
          cases hq:(allB since es && Nat.ble since last) <;> rw [hq] at h <;> exact h
        obtain ⟨g1,g2⟩:=bi_ok h'
        obtain ⟨g3,g4⟩:=and_t g1
        have hU:=unseen_R (seen:=seen) hE
        simp only [vnxt,hbx,h3]
        refine ⟨allB_R g3 hE,ble_t g4,fun hall=>?_,fun e he hn=>?_⟩
        · split at g2
          · cases g2
            exact hK ρ _ st Rn.rfl' hS (RL.cons (.bool _) .nil).mkTup
          · rename_i e0 he0
            exfalso
            rw [he0] at hU
            obtain ⟨e',t',ht',_⟩:=hU.cons_inv
            have:e' ∈ es'.filter fun e=>decide (e.2.2 ∉ seen):=by rw [ht']; simp
            have:=List.mem_filter.1 this
            simp at this
            exact this.2 (hall e' this.1)
          · cases g2
        · have hin:e ∈ es'.filter fun e=>decide (e.2.2 ∉ seen):=List.mem_filter.2 ⟨he,by simpa using hn⟩
          split at g2
          · rename_i he0
            exfalso
            rw [he0] at hU
            have:=hU.nil_inv
            rw [this] at hin; cases hin
          · rename_i e0 he0
            rw [he0] at hU
            obtain ⟨e',t',ht',r1,r2,r3,hn'⟩:=hU.cons_inv
            cases hn'.nil_inv
            rw [ht',List.mem_singleton] at hin
            subst hin
            rw [Hp.put_eq] at g2
            cases g2
            rw [← r3]
            exact hK ρ _ _ Rn.rfl' (hS.upBox hb (by rw [hg]; rfl) rfl (.it m c' since c (seen ++ [e0.2.2]) hc)) (RL.cons (.bool _) (.cons r1 (.cons r2 .nil))).mkTup
          · cases g2
      · cases h
    · cases h
  · cases h
theorem decode_ascii {l:List Int} {pos c:Nat} (_:IsB l) (h:l[pos]?=some (c:Int)) (hc:c≤127):Utf8.decode (strOf l) pos=(c,1):=by
  have hs:=(List.getElem?_eq_some_iff.1 h).1
  have hb:((strOf l).get! (pos + 0)).toNat=c:=by
    have e:(strOf l).data[pos]?=some (UInt8.ofNat c):=by
      rw [← Array.getElem?_toList,strOf_list,List.getElem?_map,h]; rfl
    have e2:(strOf l).get! (pos + 0)=UInt8.ofNat c:=by
      show (strOf l).data[pos]! = _
      rw [getElem!_def,e]
    rw [e2]
    simp; omega
  unfold Utf8.decode
  simp only [hb]
  rw [if_pos (by omega)]
theorem rngS_K (hS:Sim s0 ρ H st) (h:erngS a H=Ro.ok w H') (ha:R ρ a a') (hK:Go1 s0 ρ H' w K):vrngS a' st K:=by
  cases a with
  | str l =>
    obtain ⟨hB,rfl⟩:=ha.str_inv
    exact fun r hr=>newBox_K hS (show H.new (.si l 0) (fun r H=>Ro.ok (.ptr r 0) H)=Ro.ok w H' from h) (w0:=fun i=>.ptr i 0) (fun _ _=>rfl) rfl hK (hS.nobox hr) (fun ρ' hle=>.si l 0 hB) fun ρ' i hle hi=>.ptr i 0 r hi
  | _=>cases h
theorem nxtS_K (hS:Sim s0 ρ H st) (h:enxtS a H=Ro.ok w H') (ha:R ρ a a') (hK:Go1 s0 ρ H' w K):vnxtS a' st K:=by
  unfold enxtS at h
  split at h
  · rename_i i
    obtain ⟨b,hb,rfl⟩:=ha.ptr_inv
    split at h
    · rename_i l pos hg
      have hx:=hS.bx i b hb
      rw [hg] at hx
      obtain ⟨_,_,cs,hcs,hrb⟩:=hx
      cases hrb with
      | si _ _ hB =>
      simp only [vnxtS,hcs]
      split at h
      · rename_i hl
        rw [lget_eq] at hl
        have:=List.getElem?_eq_none_iff.1 hl
        rw [if_neg (by rw [strOf_size]; omega)]
        cases h
        exact hK ρ _ st Rn.rfl' hS (RL.cons (.bool _) .nil).mkTup
      · rename_i c hl
        rw [lget_eq] at hl
        obtain ⟨h1,h2⟩:=bi_ok h
        have hlt:=(List.getElem?_eq_some_iff.1 hl).1
        rw [if_pos (by rw [strOf_size]; exact hlt),decode_ascii hB hl (ble_t h1)]
        rw [Hp.put_eq] at h2
        cases h2
        exact hK ρ _ _ Rn.rfl' (hS.upBox hb (by rw [hg]; rfl) rfl (.si l (pos + 1) hB)) (RL.cons (.bool _) (.cons (.int _ _) (.cons (.int _ _) .nil))).mkTup
      · cases h
    · cases h
  · cases h
theorem clrm_K (hS:Sim s0 ρ H st) (h:eclrm a H=Ro.ok w H') (ha:R ρ a a') (hK:Go1 s0 ρ H' w K):vclrm a' st (K (.tup [])):=by
  cases a with
  | nilm =>
    cases ha
    cases h
    exact hK ρ _ st Rn.rfl' hS RL.nil.mkTup
  | map i =>
    obtain ⟨b,hb,rfl⟩:=ha.map_inv
    obtain ⟨ag',lf',es,c,hg,h1⟩:=mapBx (f:=fun ag' lf' es c=>H.put i (.mp ag' lf' [] c) fun H=>Ro.ok (.tup []) H) h
    obtain ⟨es',e3,hE,hEk⟩:=hS.mp hb hg
    rw [Hp.put_eq] at h1
    cases h1
    simp only [vclrm,e3]
    exact upMap_K hS hb (by rw [hg]; rfl) RE.nil (fun e he=>by cases he) hK RL.nil.mkTup
  | _=>cases h
theorem ment_K (hS:Sim s0 ρ H st) {z:V} (h:ement ag lf (Ev.ofV z) a k H=Ro.ok w H') (ha:R ρ a a') (hk:R ρ k k') (hK:Go1 s0 ρ H' w K):vment ag lf z a' k' st K:=by
  have hz:R ρ (Ev.ofV z) z:=R.ofV z
  generalize Ev.ofV z=zw at h hz
  cases a with
  | map i =>
    obtain ⟨b,hb,rfl⟩:=ha.map_inv
    obtain ⟨ag',lf',es,c,hg,h1⟩:=mapBx (f:=fun ag' lf' es c=>bi (mkOk ag ag' lf lf' k) (match emfind lf k es with
      | some r=>H.put i (.mp ag lf (emset lf k r.1 c es) c) fun H=>Ro.ok (.tup [r.1,.int .i64 (.ofNat r.2)]) H
      | none=>H.put i (.mp ag lf (emset lf k zw c es) (Nat.succ c)) fun H=>Ro.ok (.tup [zw,.int .i64 (.ofNat c)]) H) (Ro.bad [])) h
    obtain ⟨h2,h3⟩:=bi_ok h1
    obtain ⟨e1,e2,hok⟩:=mkOk_t h2
    subst e1; subst e2
    obtain ⟨es',e3,hE,hEk⟩:=hS.mp hb hg
    have hf:=find_R hok hk hE hEk c
    simp only [vment,e3]
    refine ⟨by trivial,by trivial,(key_R hok hk).1,?_⟩
    cases e:emfind lf k es with
    | none =>
      rw [e] at hf h3
      simp only [Hp.put_eq] at h3
      cases h3
      obtain ⟨i1,i2⟩:=set_R hok hk hz c hE hEk
      have hc:mclk es' k' c=c + 1:=by simp only [mclk,hf.1]; rfl
      rw [hf.2,hf.1,hc]
      exact upMap_K hS hb (by rw [hg]; rfl) i1 i2 hK (RL.cons hz (.cons (.int _ _) .nil)).mkTup
    | some x =>
      rw [e] at hf h3
      simp only [Hp.put_eq] at h3
      cases h3
      obtain ⟨y,hy,hxy,hbn⟩:=hf
      obtain ⟨i1,i2⟩:=set_R hok hk hxy c hE hEk
      have hc:mclk es' k' c=c:=by simp only [mclk,hy]; rfl
      rw [hbn,hy,hc]
      exact upMap_K hS hb (by rw [hg]; rfl) i1 i2 hK (RL.cons hxy (.cons (.int _ _) .nil)).mkTup
  | _=>cases h
theorem est_K (hS:Sim s0 ρ H st) (h:eest a k v H=Ro.ok w H') (ha:R ρ a a') (hk:R ρ k k') (hv:R ρ v v') (hK:Go1 s0 ρ H' w K):vest a' k' v' st (K .und):=by
  unfold eest at h
  split at h
  · rename_i i n
    obtain ⟨b,hb,rfl⟩:=ha.map_inv
    cases hk.int_inv
    split at h
    · rename_i ag lf es c hg
      obtain ⟨es',e3,hE,hEk⟩:=hS.mp hb hg
      split at h
      · rename_i e he
        obtain ⟨e',he',h1,_,_,_⟩:=born_R n hE he
        rw [Hp.put_eq] at h
        cases h
        obtain ⟨i1,i2⟩:=stamp_R (ag:=ag) (lf:=lf) n hv hE hEk
        refine ⟨by rw [nat_inv]; omega,?_⟩
        simp only [e3,nat_inv,Int.toNat_natCast]
        exact ⟨⟨e',he',h1⟩,upMap_K hS hb (by rw [hg]; rfl) i1 i2 hK .und⟩
      · cases h
    · cases h
  · cases h
theorem clr_K (hS:Sim s0 ρ H st) {size:Nat} {z:List V} (h:eclr size (Ev.ofCs z) a H=Ro.ok w H') (ha:R ρ a a') (hK:Go1 s0 ρ H' w K):vclr size z a' st (K (.tup [])):=by
  unfold eclr at h
  split at h
  · obtain ⟨t,l,rfl,ht,hl⟩:=ha.sl_inv
    cases hl.nil_inv
    cases h
    exact hK ρ _ st Rn.rfl' hS RL.nil.mkTup
  · rename_i i o n c
    obtain ⟨b,c',hb,hn,hc,rfl⟩:=ha.bsl_inv
    split at h
    · rename_i qo cs hg
      split at h
      · rename_i q hq
        obtain ⟨g1,g2⟩:=bi_ok h
        obtain ⟨g3,g4⟩:=and_t g1
        obtain ⟨_,_,vs,sp,e3,e4,hm,he⟩:=hS.cells hb hg
        have hf:=flatten_R (RL.ofCs (ρ:=ρ) z) n
        obtain ⟨f1,f2⟩:=splice_R hq e4 hf
        have hz:z.length=size:=by have:=beq_t g3; rw [llen_eq,(RL.ofCs (ρ:=ρ) z).len] at this; exact this
        have hl:(List.replicate n z).flatten.length=n * size:=by simp [hz]
        rw [hl] at f1
        rw [Hp.put_eq] at g2
        cases g2
        simp only [vclr,e3]
        refine ⟨by rw [List.length_append]; omega,hm,?_⟩
        rw [splice_app (by rw [hl]; exact f1)]
        exact upCells_K hS (v:=.tup []) hb hg f2 (mono_R f2 g4 (fun e=>by
          subst e
          have hz0:=congrArg List.length f2.nil_inv
          rw [splice_len (by rw [hl]; exact f1)] at hz0
          have hvs:=List.length_eq_zero_iff.1 hz0
          rw [hvs] at hm; exact hm)) (by rw [splice_len (by rw [hl]; exact f1)]; exact he) hK RL.nil.mkTup
      · cases h
    · cases h
  · cases h
theorem cpy_K (hS:Sim s0 ρ H st) {size:Nat} (h:ecpy size a b H=Ro.ok w H') (ha:R ρ a a') (hb:R ρ b b') (hK:Go1 s0 ρ H' w K):vcpy size a' b' st K:=by
  unfold ecpy at h
  split at h
  · rename_i i o n c i2 o2 m c2
    obtain ⟨b1,c',hb1,hn,hc,rfl⟩:=ha.bsl_inv
    obtain ⟨b2,c2',hb2,hn2,hc2,rfl⟩:=hb.bsl_inv
    split at h
    · rename_i qo cs qo2 ds hg hg2
      have h':bi (Nat.ble (Nat.add o (Nat.mul n size)) (llen cs) && Nat.ble (Nat.add o2 (Nat.mul m size)) (llen ds)) (match esplice cs o (ltake (ldrop ds o2) (Nat.mul (cond (Nat.ble m n) m n) size)) with
        | some r=>bi (mk1 r) (H.put i (.cells qo r) fun H=>Ro.ok (.int .i64 (.ofNat (cond (Nat.ble m n) m n))) H) (Ro.bad [5041])
        | none=>Ro.bad []) (Ro.bad [])=Ro.ok w H':=by
        cases hq:(Nat.ble (Nat.add o (Nat.mul n size)) (llen cs) && Nat.ble (Nat.add o2 (Nat.mul m size)) (llen ds)) <;> rw [hq] at h <;> exact h
      obtain ⟨g1,g2⟩:=bi_ok h'
      obtain ⟨g3,g4⟩:=and_t g1
      obtain ⟨_,_,vs,sp,e3,e4,hm,he⟩:=hS.cells hb1 hg
      obtain ⟨_,_,us,sp',e5,e6,hm',_⟩:=hS.cells hb2 hg2
      have q1:o + n * size≤vs.length:=by have:=ble_t g3; rw [llen_eq,e4.len] at this; exact this
      have q2:o2 + m * size≤us.length:=by have:=ble_t g4; rw [llen_eq,e6.len] at this; exact this
      have hmin:cond (Nat.ble m n) m n=min m n:=by
        rw [ble_dec]
        by_cases hmn:m≤n
        · rw [decide_eq_true hmn,Nat.min_eq_left hmn]; rfl
        · rw [decide_eq_false hmn,Nat.min_eq_right (by omega)]; rfl
      rw [hmin] at g2
      split at g2
      · rename_i q hq
        obtain ⟨g5,g6⟩:=bi_ok g2
        rw [ltake_eq,ldrop_eq] at hq
        obtain ⟨f1,f2⟩:=splice_R hq e4 ((e6.drop o2).take (min m n * size))
        rw [Hp.put_eq] at g6
        cases g6
        simp only [vcpy,e3,e5]
        refine ⟨hm,hm',by rw [List.length_append]; omega,by rw [List.length_append]; omega,?_⟩
        have e7:((us ++ sp').drop o2).take (min m n * size)=(us.drop o2).take (min m n * size):=by
          have:=Nat.mul_le_mul_right size (Nat.min_le_left m n)
          rw [List.drop_append_of_le_length (by omega),List.take_append_of_le_length (by rw [List.length_drop]; omega)]
        rw [e7,splice_app f1]
        exact upCells_K hS (v:=.sc (.int .i64 (min m n:Nat))) hb1 hg f2 (mono_R f2 g5 (fun e=>by
          subst e
          have hz0:=congrArg List.length f2.nil_inv
          rw [splice_len f1] at hz0
          have hvs:=List.length_eq_zero_iff.1 hz0
          rw [hvs] at hm; exact hm)) (by rw [splice_len f1]; exact he) hK (.int _ _)
      · cases g2
    · cases h
  · cases h
theorem app0_K (hS:Sim s0 ρ H st) {size bytes:Nat} {ys:List W} {y:V} {ys':List V} (h:eapp0 size bytes a ys H=Ro.ok w H') (ha:R ρ a a') (hy:RL ρ ys ys') (hsrc:srcV size st y ys') (hK:Go1 s0 ρ H' w K):vapp size bytes a' y st K:=by
  cases ys with
  | nil =>
    cases hy.nil_inv
    have g:bi (isSl a) (Ro.ok a H) (eapp size bytes a [] H)=Ro.ok w H':=h
    cases hs:isSl a
    · rw [hs] at g
      exact app_K hS g (fun ⟨t,l,e⟩=>by subst e; cases hs) ha hy hsrc hK
    · rw [hs] at g
      cases g
      refine .inr (.inr (.inr (.inr ⟨?_,hsrc,hK ρ _ st Rn.rfl' hS ha⟩)))
      cases a with
      | sl t l=>obtain ⟨t',l',rfl,_,_⟩:=ha.sl_inv; exact ⟨_,_,rfl⟩
      | _=>cases hs
  | cons x ys=>exact app_K hS (show eapp size bytes a (x :: ys) H=Ro.ok w H' from h) (fun _ e=>by cases e) ha hy hsrc hK
theorem allO_R:∀ {l:List W} {m:List V},allO l=true→RL ρ l m→m.flatMap V.cells=m
  | [],m,_,hl=>by cases hl.nil_inv; rfl
  | x :: l,m,h,hl=>by
    obtain ⟨b1,m2,rfl,r1,hl2⟩:=hl.cons_inv
    obtain ⟨h1,h2⟩:=and_t h
    have e:b1.cells=[b1]:=by cases r1 <;> first | rfl | cases h1
    rw [List.flatMap_cons,e,allO_R h2 hl2]; rfl
theorem srcC_R (hS:Sim s0 ρ H st) {i o n b:Nat} {ys:List W} (hb:ρ i=some b) (h:esrcC H i o n=some ys) (c:Nat):∃ ys',RL ρ ys ys'∧srcV 1 st (.sc (.slice (some ⟨b,o,none⟩) n c)) ys':=by
  unfold esrcC at h
  split at h
  · rename_i q cs hg
    obtain ⟨h1,h2⟩:=bi_none h
    obtain ⟨h3,h4⟩:=and_t h1
    obtain ⟨_,_,vs,sp,e3,e4,hm,_⟩:=hS.cells hb hg
    have hn:o + n≤cs.length:=by have:=ble_t h3; rw [llen_eq] at this; exact this
    cases h2
    rw [ltake_eq,ldrop_eq] at h4 ⊢
    have hl:=e4.sub hn sp
    have hlen:(((vs ++ sp).drop o).take n).length=n:=by rw [← hl.len,List.length_take,List.length_drop]; omega
    refine ⟨_,hl,.inr ⟨b,o,c,vs ++ sp,by rw [hlen],e3,?_,?_,hm⟩⟩
    · rw [hlen,List.length_append,← e4.len]; omega
    · rw [hlen,Nat.mul_one,allO_R h4 hl]
  · cases h
theorem appS_K (hS:Sim s0 ρ H st) {size bytes:Nat} (h:eappS size bytes a b H=Ro.ok w H') (ha:R ρ a a') (hb:R ρ b b') (hK:Go1 s0 ρ H' w K):vapp size bytes a' b' st K:=by
  cases b with
  | sl t ys =>
    obtain ⟨t',l',rfl,_,hl⟩:=hb.sl_inv
    exact app0_K hS (show eapp0 size bytes a ys H=Ro.ok w H' from h) ha hl (.inl ⟨t',rfl⟩) hK
  | bsl i o n c =>
    obtain ⟨bb,c',hb1,hn,hc,rfl⟩:=hb.bsl_inv
    obtain ⟨h1,h2⟩:=bi_ok (show bi (Nat.beq size 1) (oe (esrcC H i o n) (Ro.bad [5030]) fun ys=>eapp0 size bytes a ys H) (Ro.bad [5031])=Ro.ok w H' from h)
    obtain ⟨ys,h3,h4⟩:=oe_ok h2
    have e1:=beq_t h1
    subst e1
    obtain ⟨ys',k1,k2⟩:=srcC_R hS hb1 h3 c'
    exact app0_K hS h4 ha k1 k2 hK
  | osl i j n =>
    obtain ⟨bb,c',hb1,hj,hn,rfl⟩:=hb.osl_inv
    obtain ⟨h1,h2⟩:=bi_ok (show bi (Nat.beq size 1) (oe (esrcC H i 0 n) (Ro.bad [5030]) fun ys=>eapp0 size bytes a ys H) (Ro.bad [5031])=Ro.ok w H' from h)
    obtain ⟨ys,h3,h4⟩:=oe_ok h2
    have e1:=beq_t h1
    subst e1
    obtain ⟨ys',k1,k2⟩:=srcC_R hS hb1 h3 c'
    exact app0_K hS h4 ha k1 k2 hK
  | _ =>
    have h':bi (Nat.beq size 1) (Ro.bad [5030]) (Ro.bad [5031])=Ro.ok w H':=h
    cases hs:Nat.beq size 1 <;> rw [hs] at h' <;> cases h'
theorem appH_K (hS:Sim s0 ρ H st) {size bytes:Nat} (h:eappH size bytes a b H=Ro.ok w H') (ha:R ρ a a') (hb:R ρ b b') (hK:Go1 s0 ρ H' w K):vapp size bytes a' b' st K:=by
  unfold eappH at h
  split at h
  · rename_i t x ys
    obtain ⟨t1,l1,rfl,ht1,hl1⟩:=ha.sl_inv
    obtain rfl:=hl1.nil_inv
    cases ht1
    obtain ⟨t2,l2,rfl,ht2,hl2⟩:=hb.sl_inv
    obtain ⟨h1,h2⟩:=bi_ok h
    obtain ⟨h3,h4⟩:=and_t h1
    obtain ⟨q1,q2⟩:=okN_t h3
    obtain ⟨k0,k1,k2⟩:=allS_R h4 hl2
    rw [llen_eq,hl2.len] at q1 q2
    have hpos:0 < l2.length:=by rw [← hl2.len]; simp
    exact .inr (.inr (.inl ⟨l2,rfl,.inl ⟨t2,rfl⟩,k1,hpos,q1,q2,fun b' cap' spare j1 j2 j3 j4 jmo=>newbox_K hS h2 hl2 k0 k2 j1 j2 j3 j4 jmo hK⟩))
  · exact appS_K hS h ha hb hK
theorem appx_K (hS:Sim s0 ρ H st) {z:Option V} {size bytes:Nat} (h:eappx z size bytes a b H=Ro.ok w H') (ha:R ρ a a') (hb:R ρ b b') (hK:Go1 s0 ρ H' w K):(srcX z b').1∧vapp size bytes a' (srcX z b').2 st K:=by
  unfold eappx at h
  split at h
  · rename_i ys hys
    unfold esrcX at hys
    split at hys
    · obtain ⟨hB,rfl⟩:=hb.str_inv
      cases hys
      refine ⟨trivial,app0_K hS h ha (RL.byW _) (.inl ⟨.no,?_⟩) hK⟩
      show V.sl .no (byL (strOf _))=_
      rw [byL_strOf hB]
    · rename_i d n
      cases hb.int_inv
      cases hys
      refine ⟨by show (0:Int)≤_; rw [nat_inv]; omega,?_⟩
      simp only [srcX,nat_inv,Int.toNat_natCast]
      exact app0_K hS h ha (RL.rep (R.ofC _) _) (.inl ⟨.no,rfl⟩) hK
    · cases hys
  · cases h
def CallR (P:Program) (s0:S0) (call:Cl):Prop:=∀ (f:FuncId) (args:List W) (H:Hp) (r:W) (H':Hp),call f args H=Ro.ok r H'→callable P f=true ∧
  ∀ (ρ:Rn) (st:St) (vs:List V),Sim s0 ρ H st→RL ρ args vs→VCalls P f vs st fun v st'=>∃ ρ',ρ.le ρ'∧Sim s0 ρ' H' st'∧R ρ' r v
def MethR (P:Program) (meth:TypeId→String→Option FuncId):Prop:=∀ t n f,meth t n=some f→methOf P t n=some f
variable {call:Cl} {meth:TypeId→String→Option FuncId}
theorem call_K (hC:CallR P s0 call) (hS:Sim s0 ρ H st) {f:FuncId} {args:List W} {vs:List V} (h:call f args H=Ro.ok w H') (hl:RL ρ args vs) (hK:Go1 s0 ρ H' w K):VCalls P f vs st fun r st'=>r.Ok→K r st' :=
  ((hC f args H w H' h).2 ρ st vs hS hl).mono fun v st' ⟨ρ',h1,h2,h3⟩ _=>hK ρ' v st' h1 h2 h3
theorem op_K (hC:CallR P s0 call) (hM:MethR P meth) (hS:Sim s0 ρ H st) (hA:EnR ρ A A') {hint:Bool} {o:VOp} (h:(cO meth hint o).f call A H=Ro.ok w H') (hK:Go1 s0 ρ H' w K):vop P o st A' K:=by
  have pure:∀ {x:Option W} {p:Prop × V},Ro.of x H=Ro.ok w H'→(∀ r,x=some r→p.1∧R ρ r p.2)→p.1∧K p.2 st:=fun {x p} g hp=>by
    obtain ⟨g1,rfl⟩:=of_ok g
    obtain ⟨k1,k2⟩:=hp _ g1
    exact ⟨k1,hK ρ _ st Rn.rfl' hS k2⟩
  cases o with
  | mv x=>cases h; exact ⟨trivial,hK ρ _ st Rn.rfl' hS (hA.ev x)⟩
  | pick c a b=>exact pure h fun r hr=>pick_R hr (hA.ev a) (hA.ev b) (hA.ev c)
  | binZ op x y=>exact pure h fun r hr=>binZ_R hr (hA.ev x) (hA.ev y)
  | bin op x y=>exact pure h fun r hr=>bin_R hr (hA.ev x) (hA.ev y)
  | un op x=>exact pure h fun r hr=>un_R hr (hA.ev x)
  | binb neg x y=>exact pure h fun r hr=>binb_R hr (hA.ev x) (hA.ev y)
  | eqs neg l x y=>exact pure h fun r hr=>eqs_R hr (hA.ev x) (hA.ev y)
  | isnil neg x=>exact pure h fun r hr=>isnil_R hr (hA.ev x)
  | pnil neg x=>exact pure h fun r hr=>pnil_R hr (hA.ev x)
  | b2s x=>exact pure h fun r hr=>b2s_R hr (hA.ev x)
  | s2b x=>exact pure h fun r hr=>s2b_R hr (hA.ev x)
  | b2sB x=>exact pure h fun r hr=>b2sB_R hS hr (hA.ev x)
  | s2a n size x=>exact pure h fun r hr=>s2a_R hr (hA.ev x)
  | slcA n size x lo hi=>exact pure h fun r hr=>slcA_R hA hr
  | sidx x i=>exact pure h fun r hr=>sidx_R hr (hA.ev x) (hA.ev i)
  | aidx len x i=>exact pure h fun r hr=>aidx_R hr (hA.ev x) (hA.ev i)
  | aidxn len size x i=>exact pure h fun r hr=>aidxn_R hr (hA.ev x) (hA.ev i)
  | mki t x=>exact pure h fun r hr=>mki_R hr (hA.ev x)
  | fv off size x=>exact pure h fun r hr=>fv_R hr (hA.ev x)
  | conv k x=>exact pure h fun r hr=>conv_R hr (hA.ev x)
  | fld off x=>exact pure h fun r hr=>fld_R hr (hA.ev x)
  | ix size x i=>exact pure h fun r hr=>ix_R hr (hA.ev x) (hA.ev i)
  | ixa n size x i=>exact pure h fun r hr=>ixa_R hr (hA.ev x) (hA.ev i)
  | load n x=>exact pure h fun r hr=>load_R hS hr (hA.ev x)
  | nilck x=>exact pure h fun r hr=>nilck_R hr (hA.ev x)
  | ext x i=>exact pure h fun r hr=>ext_R hr (hA.ev x)
  | len x=>exact pure h fun r hr=>len_R hr (hA.ev x)
  | slen x=>exact pure h fun r hr=>slen_R hr (hA.ev x)
  | mn x y=>exact pure h fun r hr=>mm_R hr (hA.ev x) (hA.ev y)
  | mx x y=>exact pure h fun r hr=>mm_R hr (hA.ev x) (hA.ev y)
  | bld zero parts=>exact pure h fun r hr=>bld_R hr (RL.ofCs _) (oP_R hA parts).1 (oP_R hA parts).2
  | bsl size xs =>
    refine pure h fun r hr=>?_
    have hl:=(oM_R hA xs).mapS
    rw [List.map_map] at hl
    obtain ⟨h1,h2⟩:=cond_none hr
    obtain ⟨_,k1,_⟩:=allS_R h1 hl
    cases h2
    exact ⟨allLen_sz k1,hl.mkSl .no⟩
  | slc size x lo hi=>exact pure h fun r hr=>slc_R hA hr
  | sslc x lo hi=>exact pure h fun r hr=>sslc_R hA hr
  | mlk ag lf z ok x k=>exact pure h fun r hr=>mlk_R hS hr (hA.ev x) (hA.ev k)
  | mlen x=>exact pure h fun r hr=>mlen_R hS hr (hA.ev x)
  | mnil neg x=>exact pure h fun r hr=>mnil_R hr (hA.ev x)
  | inil neg x=>exact pure h fun r hr=>inil_R hr (hA.ev x)
  | ent x=>exact pure h fun r hr=>ent_R hS hr (hA.ev x)
  | mfn f first cap=>cases f with
    | func f=>exact pure h fun r hr=>mfn_R hr (oM_R hA first) (oM_R hA cap)
    | _=>cases h
  | slc3 size x lo hi mx=>exact pure h fun r hr=>slc3_R hA hr
  | box x =>
    obtain ⟨k1,k2⟩:=box_K hS h (hA.ev x) hK
    exact ⟨k1,fun b hb=>k2 b (hS.nobox hb)⟩
  | boxX x =>
    obtain ⟨k1,k2⟩:=box_K hS h (hA.ev x) hK
    exact ⟨k1,fun b hb _=>k2 b hb⟩
  | alc z=>exact fun b hb=>alc_K hS h hK (hS.nobox hb)
  | alcX z=>exact fun b hb _=>alc_K hS h hK hb
  | bslo size xs =>
    have hl:RL ρ ((oM A xs).map wstrip) (xs.map fun x=>strip (x.ev A')):=by
      have:=(oM_R hA xs).mapS
      rwa [List.map_map] at this
    have hb:=bslo_K hS h hl hK
    have e:(xs.map fun x=>strip (x.ev A')).length=xs.length:=by simp
    rw [e] at hb
    exact hb
  | mks size bytes z x=>exact mks_K (size:=size) hS h (hA.ev x) hK
  | mko size bytes z x=>exact mko_K hS h (hA.ev x) hK
  | store n x y=>exact store_K hS h (hA.ev x) (hA.ev y) hK
  | app size bytes x y =>
    cases hint
    · exact appS_K hS h (hA.ev x) (hA.ev y) hK
    · exact appH_K hS h (hA.ev x) (hA.ev y) hK
  | appx size bytes z x y=>exact appx_K hS h (hA.ev x) (hA.ev y) hK
  | call f args=>exact call_K hC hS h (oM_R hA args) hK
  | calv x args =>
    have hx:=hA.ev x
    have g:ecalv call ((cX x).f A) (oM A args) H=Ro.ok w H':=h
    generalize (cX x).f A=wx at g hx
    cases wx with
    | func f first cap =>
      have hl:=oM_R hA args
      show vcalv P (x.ev A') (args.map fun x=>x.ev A') st fun r st'=>r.Ok→K r st'
      generalize x.ev A'=vx at hx ⊢
      cases hx with
      | func _ _ _ a b hla ha hlb hb h1 =>
        refine ⟨(hC _ _ _ _ _ g).1,fun v hv=>h1 v (by simpa using hv),?_⟩
        refine call_K hC hS g ?_ hK
        have e1:RL ρ first (a.map V.sc):=⟨by simp [hla],fun i c v hc hv=>by
          simp only [List.getElem?_map,Option.map_eq_some_iff] at hv
          obtain ⟨y,hy,rfl⟩:=hv; exact ha i c y hc hy⟩
        have e2:RL ρ cap (b.map V.sc):=⟨by simp [hlb],fun i c v hc hv=>by
          simp only [List.getElem?_map,Option.map_eq_some_iff] at hv
          obtain ⟨y,hy,rfl⟩:=hv; exact hb i c y hc hy⟩
        have:=e1.append (hl.append e2)
        simpa using this
    | _=>cases g
  | inv name x args =>
    have hx:=hA.ev x
    have g:einv meth call name ((cX x).f A) (oM A args) H=Ro.ok w H':=h
    generalize (cX x).f A=wx at g hx
    cases wx with
    | iface t wv =>
      have hl:=oM_R hA args
      show vinv P name (x.ev A') (args.map fun x=>x.ev A') st fun r st'=>r.Ok→K r st'
      generalize x.ev A'=vx at hx ⊢
      cases hx with
      | iface _ _ v hv h1 =>
        have g2:(match meth t name with | some f=>call f (wv :: oM A args) H | none=>Ro.bad [5013])=Ro.ok w H':=g
        cases hm:meth t name with
        | none=>rw [hm] at g2; cases g2
        | some f =>
          rw [hm] at g2
          exact ⟨f,hM _ _ _ hm,(hC _ _ _ _ _ g2).1,h1,call_K hC hS g2 (.cons hv hl) hK⟩
    | _=>cases g
  | mkm ag lf=>exact mkm_K hS h hK
  | mup ag lf x k v=>exact mup_K hS h (hA.ev x) (hA.ev k) (hA.ev v) hK
  | mdel ag lf x k=>exact mdel_K hS h (hA.ev x) (hA.ev k) hK
  | rng x=>exact rng_K hS h (hA.ev x) hK
  | nxt x=>exact nxt_K hS h (hA.ev x) hK
  | rngS x=>exact rngS_K hS h (hA.ev x) hK
  | nxtS x=>exact nxtS_K hS h (hA.ev x) hK
  | clrm x=>exact clrm_K hS h (hA.ev x) hK
  | ment ag lf z x k=>exact ment_K hS h (hA.ev x) (hA.ev k) hK
  | est x s v=>exact est_K hS h (hA.ev x) (hA.ev s) (hA.ev v) hK
  | clr size z x=>exact clr_K hS h (hA.ev x) hK
  | cpy size x y=>exact cpy_K hS h (hA.ev x) (hA.ev y) hK
end
end Ev
end
end Go.Proofs.YtnjmddlgpcnpeaaGreat
