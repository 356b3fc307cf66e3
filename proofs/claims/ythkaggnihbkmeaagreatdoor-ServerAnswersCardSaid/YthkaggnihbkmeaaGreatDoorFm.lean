/- Formulas of the program's functions, printed by a program of the prover's own (dec.py); each is tied to its code by the kernel. -/
import Derived.Test.YthkaggnihbkmeaaGreatDoorVc
import Derived.Test.YthkaggnihbkmeaaGreatDoorProg
set_option linter.unusedVariables false
set_option maxRecDepth 1000000
namespace Go.Proofs.YthkaggnihbkmeaaGreatDoor
open Go Go.Vc Tryz Vc.H
abbrev I (n:Int):Value:=.int .i64 n
abbrev Bv (o:BinOp) (a b:Value) (A B:Prop):Prop:=Bp o a b λx=>Vif x A B
abbrev KS (a:List Value) (X:Prop):Prop:=KE a a X
abbrev VT0:=Program->World->KT->Prop
abbrev VT1:=Program->Value->World->KT->Prop
abbrev VT2:=Program->Value->Value->World->KT->Prop
abbrev VT3:=Program->Value->Value->Value->World->KT->Prop
abbrev VT4:=Program->Value->Value->Value->Value->World->KT->Prop
variable {a0 a1 a2 a3 a4 a5 a6 a7 a8 a9:Value}
variable {w:World}{R:Value->World->Prop}

def Vz3:VT2:=λP b1 c w R=>
 New b1 24 w λq M=>VJoin 1 (λ_ b2 C=>Vif b2 (Cl P 6 #[] C λb3 b4=>R b3 b4) (LdA 7 q C λb5=>Cl P 7 #[b5] C λN O=>Ex N 0 λf=>Ex N 1 λk=>LdA 7 q O λb6=>Cl P 8 #[b6] O λb7 b8=>New (zeroP P 38) 38 b8 λe b9=>StA 12 e b7 b9 λc0=>Lnl c λm=>VLoop 2 [(I 0),(I 0)] c0 λ_ c1 Q g u=>Bv .lss g m (Ias 3 c g λc2=>LdA 3 c2 u λc3=>New (zeroP P 41) 41 u λD c4=>StA 3 D c3 c4 λS=>LdA 3 D S λc5=>Cl P 9 #[c5] S λU c6=>Cl P 10 #[f,(I 0),U] c6 λW t=>Bp .add Q W λp=>Lns U λc7=>Bp .neq W c7 λc8=>Vif c8 (R (.bool false) t) (VJoin 0 (λ_ c9=>VJoin 1 (λ_ d0 E=>Vif d0 (R (.bool false) E) (Fo 7 e λd1=>LdA 2 d1 E λd2=>Cl P 14 #[d2] E λF d3=>VJoin 1 (λ_ d4 Y=>Vif d4 (R (.bool false) Y) (Bp .add g (I 1) λd5=>KS [c,f,k,e,c,m]<|c1 p d5 Y)) (λJ31=>Dr d3 λG=>Bp .geq F (I 0) λd6=>Vif d6 (Cl P 15 #[f,F] G λd7 Z=>LdA 12 e Z λa0=>Rk (λw K=>LdA 12 e w λd8=>K d8) a0 G<|Cl P 16 #[a0] Z λd9 v=>Bv .neq d7 d9 (KS [c,f,k,e,p,c,m,g]<|J31 (.bool true) v) (Cl P 17 #[f,F] v λe0 a1=>Fo 9 e λa2=>Ld a2 a1 λJ=>Rk (λw K=>Ld a2 w λe1=>K e1) J v<|Lnl J λa3=>Rk (λw K=>Lnl J λe2=>K e2) a3 v<|Bp .neq e0 a3 λe3=>KS [c,f,k,e,p,c,m,g]<|J31 e3 a1)) (KS [c,f,k,e,p,c,m,g]<|J31 (.bool false) G)))) (λJ48=>Dr c9 λa4=>Cl P 12 #[f,(I 0)] a4 λe4 y=>Fo 10 e λa5=>Ld a5 y λa6=>Rk (λw K=>Ld a5 w λe5=>K e5) a6 a4<|Bp .neq e4 a6 λe6=>Vif e6 (KS [c,f,k,e,p,c,m,g]<|J48 (.bool true) y) (Cl P 13 #[f,(I 0)] y λe7 a7=>Fo 11 e λa8=>Ld a8 a7 λa9=>Rk (λw K=>Ld a8 w λe8=>K e8) a9 y<|Bb true e7 a9 λe9=>KS [c,f,k,e,p,c,m,g]<|J48 e9 a7))) (λJ61=>Fo 11 e λf0=>Ld f0 t λf1=>Up .not f1 λf2=>Vif f2 (LdA 12 e t λf3=>LdA 3 D t λf4=>Cl P 11 #[f3,f4] t λf5 f6=>StA 12 e f5 f6 λf7=>KS [c,f,k,e,p,c,m,g]<|J61 f7) (KS [c,f,k,e,p,c,m,g]<|J61 t)))) (Bv .eql k (I 0) (Cl P 18 #[c] u λf8 b0=>Lns f8 λf9=>Bv .eql Q f9 (Cl P 6 #[] b0 λg0 g1=>R g0 g1) (R (.bool false) b0)) (R (.bool false) u)))) (λJ73=>LdA 7 q M λg2=>Cl P 4 #[g2,c] M λg3 L=>Vif g3 (KS [c,q]<|J73 (.bool true) L) (LdA 7 q L λg4=>Cl P 5 #[g4] L λg5 g6=>Bp .neq g5 (I 0) λg7=>KS [c,q]<|J73 g7 g6))
theorem Tz3 (h:Vz3 prog a0 a1 w R):Cl prog 3 #[a0,a1] w R:=
 tz 101 [(.tmp 4)] (s z (s (j [21] [1,2] z (i (s z z) z)) (s z (s z (s z (s (s z (b (l [8,32] [1,5,6,7,30,31] (s z (s (i z z) (s (b (s z (s z (s z (s z (s (s z (i (s z z) z)) (j [] [1,5,6,7,8,30,31,32] (s z (i z z)) (s (j [65] [1,5,6,7,8,30,31,32] (r (.staged [0,1,0,4,15,31,63,127,63,319,1023,2047])) (i (s z z) z)) (s z (j [87] [1,5,6,7,8,30,31,32] (r (.staged [0,1,3,7,7,31,7,127,255,511,1023,1023,4095,1023,9215,25599,65535,131071,262143])) (i (s z z) z))))))))))) z)))))) (s z z))))))) [a0,a1] func3 h
def Vz4:VT2:=λP L c w R=>
 New L 24 w λe f=>VJoin 1 (λ_ M u=>Vif M (R (.bool true) u) (Fo 0 e λN=>Ld N u λg=>Lnl g λp=>VLoop 1 [(I 0)] u λ_ O k v=>Bv .lss k p (Ias 5 g k λQ=>LdA 5 Q v λS=>New (zeroP P 51) 51 v λy U=>StA 5 y S U λq=>VJoin 1 (λ_ W F=>Vif W (R (.bool true) F) (Bp .add k (I 1) λY=>KS [c,g,p]<|O Y F)) (λJ14=>Fo 0 y λZ=>Ld Z q λa0=>Lns a0 λa1=>Bp .gtr a1 (I 150) λa2=>Vif a2 (KS [c,g,p,k]<|J14 (.bool true) q) (Fo 1 y λa3=>Ld a3 q λa4=>Lns a4 λa5=>Bp .gtr a5 (I 150) λa6=>KS [c,g,p,k]<|J14 a6 q))) (Lnl c λt=>VLoop 1 [(I 0)] v λ_ a7 m C=>Bp .lss m t λa8=>Vif a8 (Ias 3 c m λa9=>LdA 3 a9 C λb0=>New (zeroP P 41) 41 C λD b1=>StA 3 D b0 b1 λG=>VJoin 1 (λ_ b2 J=>Vif b2 (R (.bool true) J) (Bp .add m (I 1) λb3=>KS [c,t]<|a7 b3 J)) (λJ32=>LdA 3 D G λb4=>Cl P 19 #[b4] G λb5 E=>Bp .neq b5 (I 0) λb6=>Vif b6 (KS [c,t,m]<|J32 (.bool true) E) (Fo 2 D λb7=>Ld b7 E λb8=>Lns b8 λb9=>Bp .gtr b9 (I 200) λc0=>KS [c,t,m]<|J32 c0 E))) (R (.bool false) C)))) (λJ40=>Fo 0 e λc1=>Ld c1 f λc2=>Lnl c2 λc3=>Bp .gtr c3 (I 20) λc4=>Vif c4 (KS [c,e]<|J40 (.bool true) f) (Lnl c λc5=>Bv .gtr c5 (I 40) (KS [c,e]<|J40 (.bool true) f) (Fo 1 e λc6=>Ld c6 f λc7=>Bv .gtr c7 (I 200) (Fo 1 e λc8=>Ld c8 f λc9=>Bp .leq c9 (I 100000) λd0=>KS [c,e]<|J40 d0 f) (KS [c,e]<|J40 (.bool false) f))))
theorem Tz4 (h:Vz4 prog a0 a1 w R):Cl prog 4 #[a0,a1] w R:=
 tz 62 [(.tmp 4)] (s z (s (j [27] [1,2] z (i (s z z) z)) (s (s z (b (l [31] [1,29,30] (s z (s (i z z) (s (b (s z (j [44] [1,29,30,31] z (i (s z z) z)))) z)))))) (s (s z (b (l [48] [46,47] (s z (s (i z z) (s (b (s z (j [60] [46,47,48] z (i (s z z) z)))) z)))))) (s z z))))) [a0,a1] func4 h
def Vz5:VT1:=λP m w R=>
 New m 24 w λf k=>Fo 0 f λp=>Ld p k λq=>Cl P 20 #[q] k λt u=>New (zeroP P 54) 54 u λg v=>StA 2 g t v λe=>Fo 1 g λy=>Ld y e λC=>Bv .neq C (I 0) (Fo 1 g λD=>Ld D e λE=>R E e) (Fo 1 f λF=>Ld F e λG=>Bv .lss G (I 24) (R (I 1) e) (Fo 1 f λJ=>Ld J e λL=>Bv .gtr L (I 100000) (R (I 1) e) (Fo 2 f λM=>Ld M e λN=>Bv .lss N (I 64) (R (I 1) e) (Fo 2 f λO=>Ld O e λQ=>Bv .gtr Q (I 1048576) (R (I 1) e) (Fo 3 f λS=>Ld S e λU=>Cl P 21 #[U,(I 1)] e λW c=>Up .not W λY=>Vif Y (R (I 1) c) (Fo 4 f λZ=>Ld Z c λa0=>Bv .lss a0 (I 1) (R (I 1) c) (Fo 4 f λa1=>Ld a1 c λa2=>Bv .gtr a2 (I 1048576) (R (I 1) c) (Fo 5 f λa3=>Ld a3 c λa4=>Bv .lss a4 (I 1) (R (I 1) c) (Fo 5 f λa5=>Ld a5 c λa6=>Bv .gtr a6 (I 64) (R (I 1) c) (Fo 6 f λa7=>Ld a7 c λa8=>Bv .lss a8 (I 1) (R (I 1) c) (Fo 6 f λa9=>Ld a9 c λb0=>Bv .gtr b0 (I 4096) (R (I 1) c) (R (I 0) c))))))))))))
theorem Tz5 (h:Vz5 prog a0 w R):Cl prog 5 #[a0] w R:=
 tz 66 [(.tmp 2)] (s z (s z (s (s z (i (s z z) z)) (s (s z (i (s z z) z)) (s z z))))) [a0] func5 h
def Vz7:VT1:=λP J w R=>
 New J 24 w λc g=>LdA 7 c g λL=>Cl P 27 #[L] g λk e=>Bv .neq k (I 0) (R (.tuple #[(.pointer none),k]) e) (Fo 5 c λM=>Ld M e λN=>Cl P 28 #[N] e λm p=>Ex m 0 λO=>Ex m 1 λc4=>Fo 0 c λQ=>Ld Q p λS=>Cl P 30 #[S,(.func (.func 31) #[] #[])] p λU W=>Cl P 29 #[U] W λq Y=>Ex q 0 λZ=>Ex q 1 λc5=>Dr Y λf=>Fo 4 c λt=>Ld t f λu=>Fo 0 c λa0=>Ld a0 f λa1=>Cl P 30 #[a1,(.func (.func 33) #[] #[])] f λa2 v=>Rk (λw K=>Ld t w λa3=>K a3) u v<|Cl P 32 #[u,a2] v λy C=>Ex y 0 λa4=>Ex y 1 λc6=>Fo 0 c λa5=>Ld a5 C λa6=>Cl P 30 #[a6,(.func (.func 35) #[] #[])] C λa7 a8=>Cl P 34 #[a7] a8 λD a9=>Ex D 0 λb0=>Ex D 1 λc7=>Bs P 22 0 #[] a9 λb1 E=>Fo 0 c λb2=>Ld b2 E λb3=>Ap P #[22,22] 22 #[b1,b3] E λb4 b5=>Fo 0 c λb6=>St b6 b4 b5 λF=>LdA 7 c F λb7=>Mm P 75 none F λb8 b9=>Mm P 76 none b9 λc0 G=>Bd P 78 #[(0,b7),(1,b8),(2,c0),(3,O),(4,Z),(5,a4),(6,b0)] G λc1=>New c1 78 G λc2 c3=>R (.tuple #[c2,(I 0)]) c3)
theorem Tz7 (h:Vz7 prog a0 w R):Cl prog 7 #[a0] w R:=
 tz 61 [(.tmp 2),(.tmp 3)] (s z (s (s z (s z (i (s z z) z))) (s z (s z (s (r (.staged [0,1,0,4,12,31,63,127,127,255,1023])) (s z (s z (s z z)))))))) [a0] func7 h
def Vz8:VT1:=λP k w R=>
 New k 24 w λe m=>New (zeroP P 38) 38 m λf c=>LdA 7 e c λp=>Fo 0 e λq=>Ld q c λt=>Bd P 35 #[(0,t)] c λu=>Bd P 38 #[(0,p),(1,u)] c λv=>StA 12 f v c λg=>LdA 12 f g λy=>R y g
theorem Tz8 (h:Vz8 prog a0 w R):Cl prog 8 #[a0] w R:=
 tz 8 [(.cell 2 38)] (s z (s z z)) [a0] func8 h
def Vz9:VT1:=λP a3 w R=>
 New a3 41 w λM a4=>Dr a4 λt=>Fo 0 M λu=>Ld u t λv=>Ci .u8 v λS=>Fo 1 M λN=>Ld N t λJ=>Fo 2 M λy=>Ld y t λe=>Lns e λq=>Fo 2 M λg=>Ld g t λf=>(Bs P 79 1 #[(0,S)] t λU C=>Rk (λw K=>Ld g w λc=>K c) f C<|Rk (λw K=>Lns e λk=>K k) q C<|Rk (λw K=>Ld y w λm=>K m) e C<|Rk (λw K=>Ld N w λL=>K L) J C<|Cv P 79 9 U C λW=>Cl P 36 #[J] C λa5 D=>Rk (λw K=>Cv P 79 9 U w λY=>K Y) W D<|Rk (λw K=>Ld g w λc=>K c) f D<|Rk (λw K=>Lns e λk=>K k) q D<|Rk (λw K=>Ld y w λm=>K m) e D<|Rk (λw K=>Ld u w λp=>K p) v D<|Bp .add W a5 λa6=>Cl P 36 #[q] D λa7 O=>Rk (λw K=>Cv P 79 9 U w λY=>K Y) W O<|Rk (λw K=>Ld g w λc=>K c) f O<|Rk (λw K=>Ld u w λp=>K p) v O<|Bp .add a6 a7 λa8=>Bp .add a8 f λa9=>R a9 O)/\(Cl P 36 #[J] t λa0 E=>Rk (λw K=>Ld g w λc=>K c) f E<|Rk (λw K=>Lns e λk=>K k) q E<|Rk (λw K=>Ld y w λm=>K m) e E<|Rk (λw K=>Ld u w λp=>K p) v E<|(Bs P 79 1 #[(0,S)] E λa1 F=>Rk (λw K=>Ld g w λc=>K c) f F<|Rk (λw K=>Lns e λk=>K k) q F<|Rk (λw K=>Ld y w λm=>K m) e F<|Rk (λw K=>Ld N w λL=>K L) J F<|Cv P 79 9 a1 F λa2=>Bp .add a2 a0 λb0=>Cl P 36 #[q] F λb1 Q=>Rk (λw K=>Cv P 79 9 a1 w λb2=>K b2) a2 Q<|Rk (λw K=>Ld g w λc=>K c) f Q<|Rk (λw K=>Ld u w λp=>K p) v Q<|Bp .add b0 b1 λb3=>Bp .add b3 f λb4=>R b4 Q)/\(Cl P 36 #[q] E λb5 Z=>Rk (λw K=>Ld g w λc=>K c) f Z<|Rk (λw K=>Ld u w λp=>K p) v Z<|Bs P 79 1 #[(0,S)] Z λb6 G=>Rk (λw K=>Ld g w λc=>K c) f G<|Rk (λw K=>Lns e λk=>K k) q G<|Rk (λw K=>Ld y w λm=>K m) e G<|Rk (λw K=>Ld N w λL=>K L) J G<|Cv P 79 9 b6 G λb7=>Bp .add b7 a0 λb8=>Bp .add b8 b5 λb9=>Bp .add b9 f λc0=>R c0 G))
theorem Tz9 (h:Vz9 prog a0 w R):Cl prog 9 #[a0] w R:=
 tz 20 [(.tmp 2)] (s z (s (r (.tree [0,1,3,7,15,0,32,96,255,0,512,1536,3808,8191,0,16384,65535,131071] (.op 0 (.op 1 (.op 2 (.op 5 (.op 6 (.op 9 (.op 10 (.op 11 (.op 14 (.op 15 (.fk (.op 3 (.op 4 (.op 7 (.op 8 (.op 12 (.op 13 (.op 16 (.op 17 .dn)))))))) (.op 7 (.fk (.op 3 (.op 4 (.op 8 (.op 12 (.op 13 (.op 16 (.op 17 .dn))))))) (.op 12 (.op 3 (.op 4 (.op 8 (.op 13 (.op 16 (.op 17 .dn)))))))))))))))))))))) z)) [a0] func9 h
def Vz10:VT3:=λP c g f w R=>
 VJoin 1 (λ_ C t=>Vif C (R (I 0) t) (Cl P 38 #[c,g] t λe D=>VLoop 1 [(I 0)] D λ_ u k m=>Nc e<|Fo 6 e λE=>Ld E m λF=>Up .not F λG=>Vif G (Dr m λv=>Nc e<|Fo 1 e λJ=>Ld J v λL=>Sst f (some k) none λM=>Cl P 39 #[L,M] v λy N=>Bp .add k y λp=>Cl P 40 #[c,e] N λO q=>Up .not O λQ=>Vif Q (Bv .eql y (I 0) (R p q) (KS [c,f,e]<|u p q)) (KS [c,f,e]<|u p q)) (R k m))) (λJ18=>Bn P 78 false c (.pointer none) λS=>Vif S (KS [c,g,f]<|J18 (.bool true) w) (Cl P 37 #[g] w λU W=>Up .not U λY=>KS [c,g,f]<|J18 Y W))
theorem Tz10 (h:Vz10 prog a0 a1 a2 w R):Cl prog 10 #[a0,a1,a2] w R:=
 tz 45 [(.tmp 6)] (s z (s (j [16] [0,1,2] z (i (s z z) z)) (s z (s z (s (b (l [8] [0,2,7] (s (s z (i z z)) (b (s (r (.staged [0,1,3,7,0,0,48,127,255])) (s z (s z (i z z)))))))) (s z z)))))) [a0,a1,a2] func10 h
def Vz11:VT2:=λP G J w R=>
 New G 38 w λe L=>New J 41 L λM N=>New (zeroP P 38) 38 N λf p=>Fo 7 e λO=>LdA 2 O p λQ=>LdA 3 M p λS=>Cl P 41 #[Q,S] p λU W=>New (zeroP P 93) 93 W λg Y=>StA 8 g U Y λq=>Fo 7 e λZ=>LdA 2 Z q λa0=>LdA 8 g q λa1=>Cl P 42 #[a0,a1] q λa2 a3=>Fo 7 e λa4=>StA 2 a4 a2 a3 λc=>Fo 0 g λa5=>Ld a5 c λm=>Bv .eql m (I 1) (LdA 12 e c λa6=>Fo 1 g λa7=>Ld a7 c λa8=>Fo 7 g λa9=>Ld a9 c λb0=>Bd P 98 #[(0,(I 69)),(1,a8),(3,b0)] c λb1=>Cl P 43 #[a6,b1] c λb2 b3=>StA 12 f b2 b3 λv=>LdA 12 f v λb4=>R b4 v) (Bv .eql m (I 2) (Dr c λk=>LdA 12 e k λb5=>Fo 0 e λb6=>Fo 0 b6 λb7=>Ld b7 k λb8=>Fo 2 g λb9=>Ld b9 k λc0=>Ias 5 b8 c0 λc1=>Fo 0 c1 λc2=>Ld c2 k λc3=>Bd P 98 #[(0,(I 65)),(2,c3)] k λc4=>Cl P 43 #[b5,c4] k λc5 c6=>StA 12 f c5 c6 λy=>LdA 12 f y λc7=>R c7 y) (Bv .eql m (I 3) (LdA 12 e c λc8=>LdA 8 g c λc9=>Cl P 44 #[c8,c9] c λd0 d1=>StA 12 f d0 d1 λC=>LdA 12 f C λd2=>R d2 C) (Bv .eql m (I 8) (Dr c λt=>LdA 12 e t λD=>LdA 12 e t λd3=>Cl P 45 #[d3] t λd4 u=>Rk (λw K=>LdA 12 e w λd5=>K d5) D u<|Bd P 98 #[(0,(I 70)),(2,d4)] u λd6=>Cl P 43 #[D,d6] u λd7 d8=>StA 12 f d7 d8 λE=>LdA 12 f E λd9=>R d9 E) (LdA 12 e c λe0=>LdA 8 g c λe1=>Cl P 46 #[e0,e1] c λe2 e3=>StA 12 f e2 e3 λF=>LdA 12 f F λe4=>R e4 F))))
theorem Tz11 (h:Vz11 prog a0 a1 w R):Cl prog 11 #[a0,a1] w R:=
 tz 54 [(.cell 4 38)] (s z (s z (s z (s (s z (b (s z (i (s z z) (s z (i (s (r (.staged [0,0,2,6,0,16,62,126,254,510,1023,2047])) z) (s z (i (s z z) (s z (i (s (r (.staged [0,0,2,6,15,31])) z) z)))))))))) (s z z))))) [a0,a1] func11 h
def Vz12:VT2:=λP f g w R=>
 Cl P 47 #[f,g] w λc e=>Bn P 88 false c (.pointer none) λk=>Vif k (R (.string ⟨#[]⟩) e) (Nc c<|Fo 3 c λm=>Cl P 48 #[m] e λp q=>R p q)
theorem Tz12 (h:Vz12 prog a0 a1 w R):Cl prog 12 #[a0,a1] w R:=
 tz 15 [(.tmp 4)] (s z (s z (s (s z (i (s z z) z)) (s z z)))) [a0,a1] func12 h
def Vz13:VT2:=λP f g w R=>
 Cl P 47 #[f,g] w λc e=>Bn P 88 true c (.pointer none) λk=>Vif k (Nc c<|Fo 5 c λm=>Ld m e λp=>Bp .gtr p (I 0) λq=>R q e) (R (.bool false) e)
theorem Tz13 (h:Vz13 prog a0 a1 w R):Cl prog 13 #[a0,a1] w R:=
 tz 18 [(.tmp 4)] (s z (s z (s z z))) [a0,a1] func13 h
def Vz14:VT1:=λP q w R=>
 New q 35 w λt m=>Fo 1 t λu=>Ld u m λe=>Lnl e λp=>VLoop 1 [(I 0)] m λ_ v f g=>Bv .lss f p (Ias 8 e f λy=>LdA 8 y g λC=>New (zeroP P 93) 93 g λk D=>StA 8 k C D λc=>Fo 0 k λE=>Ld E c λF=>Bv .eql F (I 2) (Fo 2 k λG=>Ld G c λJ=>R J c) (Bp .add f (I 1) λL=>KS [e,p]<|v L c)) (R (I (-1)) g)
theorem Tz14 (h:Vz14 prog a0 w R):Cl prog 14 #[a0] w R:=
 tz 18 [(.tmp 2)] (s z (s (s z (b (l [8] [6,7] (s z (s (i z z) (s (b (s z (s z (i (s z z) z)))) z)))))) (s z z))) [a0] func14 h
def Vz15:VT2:=λP c e w R=>
 Bn P 78 false c (.pointer none) λf=>Vif f (R (I 0) w) (Nc c<|Fo 10 c λg=>Ld g w λk=>Cl P 49 #[k,e] w λm p=>R m p)
theorem Tz15 (h:Vz15 prog a0 a1 w R):Cl prog 15 #[a0,a1] w R:=
 tz 13 [(.tmp 4)] (s z (s (s z (i (s z z) z)) (s z z))) [a0,a1] func15 h
def Vz16:VT1:=λP t w R=>
 New t 38 w λu g=>Fo 9 u λv=>Ld v g λc=>Lnl c λk=>VLoop 2 [(I 0),(I 0)] g λ_ y m e f=>Bv .lss e k (Ias 5 c e λC=>LdA 5 C f λD=>New (zeroP P 102) 102 f λp E=>StA 5 p D E λq=>Fo 1 p λF=>Ld F q λG=>Bp .add m G λJ=>Bp .add e (I 1) λL=>KS [c,k]<|y J L q) (R m f)
theorem Tz16 (h:Vz16 prog a0 w R):Cl prog 16 #[a0] w R:=
 tz 19 [(.tmp 2)] (s z (s z (s (s z (b (l [3,9] [7,8] (s z (s (i z z) (s (b (s z z)) z)))))) (s z z)))) [a0] func16 h
def Vz17:VT2:=λP c e w R=>
 Bn P 78 false c (.pointer none) λf=>Vif f (R (I 0) w) (Nc c<|Fo 9 c λg=>Ld g w λk=>Cl P 50 #[k,e] w λm p=>Lnl m λq=>R q p)
theorem Tz17 (h:Vz17 prog a0 a1 w R):Cl prog 17 #[a0,a1] w R:=
 tz 14 [(.tmp 4)] (s z (s (s z (i (s z z) z)) (s z z))) [a0,a1] func17 h
def Vz18:VT1:=λP c w R=>
 Lnl c λg=>VLoop 2 [(.string ⟨#[]⟩),(I 0)] w λ_ q k e f=>Bv .lss e g (Ias 3 c e λt=>LdA 3 t f λu=>New (zeroP P 41) 41 f λm v=>StA 3 m u v λp=>LdA 3 m p λy=>Cl P 9 #[y] p λC D=>Bp .add k C λE=>Bp .add e (I 1) λF=>KS [c,g]<|q E F D) (R k f)
theorem Tz18 (h:Vz18 prog a0 w R):Cl prog 18 #[a0] w R:=
 tz 18 [(.tmp 2)] (s z (s z (s (s z (b (l [3,8] [6,7] (s z (s (i z z) (s (b (s z z)) z)))))) (s z z)))) [a0] func18 h
def Vz19:VT1:=λP k w R=>
 New k 41 w λc g=>Fo 0 c λm=>Ld m g λp=>Cl P 51 #[p] g λq e=>Up .not q λt=>Vif t (R (I 35) e) (VJoin 1 (λ_ u f=>Vif u (R (I 1) f) (Fo 2 c λv=>Ld v f λy=>Lns y λC=>Bv .gtr C (I 65536) (R (I 2) f) (R (I 0) f))) (λJ11=>Fo 1 c λD=>Ld D e λE=>Bv .lss E (I 0) (KS [c]<|J11 (.bool true) e) (Fo 1 c λF=>Ld F e λG=>Bp .gtr G (I 4294967295) λJ=>KS [c]<|J11 J e)))
theorem Tz19 (h:Vz19 prog a0 w R):Cl prog 19 #[a0] w R:=
 tz 19 [(.tmp 2)] (s z (s (s z (i (s z z) z)) (s (j [14] [1] z (i (s z z) z)) (s (s z (i (s z z) z)) (s z z))))) [a0] func19 h
def Vz20:VT1:=λP e w R=>
 New (zeroP P 54) 54 w λc m=>Lnl e λO=>Bv .eql O (I 0) (Bd P 54 #[(0,(I (-1))),(1,(I 6))] m λQ=>StA 2 c Q m λF=>LdA 2 c F λS=>R S F) (Lnl e λU=>Bv .gtr U (I 16) (Bd P 54 #[(0,(I 16)),(1,(I 2))] m λW=>StA 2 c W m λG=>LdA 2 c G λY=>R Y G) (Lnl e λp=>VLoop 1 [(I 0)] m λ_ Z f u=>Bv .lss f p (Ias 5 e f λa0=>LdA 5 a0 u λa1=>New (zeroP P 51) 51 u λg a2=>StA 5 g a1 a2 λJ=>LdA 5 g J λa3=>Cl P 52 #[a3] J λa4 y=>Up .not a4 λa5=>Vif a5 (Bd P 54 #[(0,f),(1,(I 1))] y λa6=>StA 2 c a6 y λL=>LdA 2 c L λa7=>R a7 L) (Ssl 5 e none (some f) λq=>Lnl q λv=>VLoop 1 [(I 0)] y λ_ a8 t C=>Bv .lss t v (Ias 5 q t λa9=>LdA 5 a9 C λb0=>New (zeroP P 51) 51 C λD b1=>StA 5 D b0 b1 λk=>VJoin 1 (λ_ b2 E=>Vif b2 (Bd P 54 #[(0,f),(1,(I 8))] E λb3=>StA 2 c b3 E λM=>LdA 2 c M λb4=>R b4 M) (Bp .add t (I 1) λb5=>KS [e,c,f,g,e,p,f,q,v]<|a8 b5 E)) (λJ34=>Fo 0 D λb6=>Ld b6 k λb7=>Fo 0 g λb8=>Ld b8 k λb9=>Bp .eql b7 b9 λc0=>Vif c0 (KS [e,c,f,g,e,p,f,q,v,t]<|J34 (.bool true) k) (Fo 1 D λc1=>Ld c1 k λc2=>Fo 1 g λc3=>Ld c3 k λc4=>Bp .eql c2 c4 λc5=>KS [e,c,f,g,e,p,f,q,v,t]<|J34 c5 k))) (Bp .add f (I 1) λc6=>KS [e,c,e,p]<|Z c6 C))) (Bd P 54 #[(0,(I (-1))),(1,(I 0))] u λc7=>StA 2 c c7 u λN=>LdA 2 c N λc8=>R c8 N)))
theorem Tz20 (h:Vz20 prog a0 w R):Cl prog 20 #[a0] w R:=
 tz 52 [(.cell 2 54)] (s z (s (s z (i (s z z) z)) (s (s z (i (s z z) z)) (s (s z (b (l [17] [0,2,15,16] (s z (s (i z z) (s (b (s z (s (s z (i (s z z) z)) (s z (b (l [31] [0,2,3,4,15,16,17,29,30] (s z (s (i z z) (s (b (s z (j [46] [0,2,3,4,15,16,17,29,30,31] z (i (s z z) z)))) z))))))))) z)))))) (s z z))))) [a0] func20 h
def Vz21:VT2:=λP c e w R=>
 Bv .geq c e (Bp .leq c (I 1099511627776) λf=>R f w) (R (.bool false) w)
theorem Tz21 (h:Vz21 prog a0 a1 w R):Cl prog 21 #[a0,a1] w R:=
 tz 12 [(.tmp 4)] (s z (s z z)) [a0,a1] func21 h
def Vz27:VT1:=λP y w R=>
 New y 24 w λc q=>Fo 0 c λC=>Ld C q λD=>Cl P 64 #[D] q λt e=>Ex t 0 λa4=>Ex t 1 λu=>Bv .neq u (I 0) (R u e) (Fo 1 c λE=>Ld E e λF=>Cl P 65 #[F,(I 24),(I 100000)] e λG f=>Vif G (Fo 2 c λJ=>Ld J f λL=>Cl P 65 #[L,(I 64),(I 1048576)] f λM g=>Vif M (Fo 3 c λN=>Ld N g λO=>Cl P 65 #[O,(I 1),(I 1099511627776)] g λQ k=>Vif Q (Fo 4 c λS=>Ld S k λU=>Cl P 65 #[U,(I 1),(I 1048576)] k λW m=>Vif W (Fo 5 c λY=>Ld Y m λZ=>Cl P 65 #[Z,(I 1),(I 64)] m λa0 p=>Vif a0 (Fo 6 c λa1=>Ld a1 p λa2=>Cl P 65 #[a2,(I 1),(I 4096)] p λa3 v=>Vif a3 (R (I 0) v) (R (I 1) v)) (R (I 1) p)) (R (I 1) m)) (R (I 1) k)) (R (I 1) g)) (R (I 1) f))
theorem Tz27 (h:Vz27 prog a0 w R):Cl prog 27 #[a0] w R:=
 tz 42 [(.tmp 2)] (s z (s (s z (s z (i (s z z) z))) (s (s z (i (s z z) z)) (s z z)))) [a0] func27 h
def Vz28:VT1:=λP c w R=>
 VJoin 1 (λ_ f e=>Vif f (R (.tuple #[(.pointer none),(I 1)]) e) (Bd P 128 #[(0,c)] e λg=>New g 128 e λk m=>R (.tuple #[k,(I 0)]) m)) (λJ4=>Bv .lss c (I 1) (KS [c]<|J4 (.bool true) w) (Bp .gtr c (I 64) λp=>KS [c]<|J4 p w))
theorem Tz28 (h:Vz28 prog a0 w R):Cl prog 28 #[a0] w R:=
 tz 13 [(.tmp 2),(.tmp 3)] (s z (s (j [9] [0] z (i (s z z) z)) (s z z))) [a0] func28 h
def Vz29:VT1:=λP c w R=>
 VJoin 1 (λ_ p g=>Vif p (R (.tuple #[(.pointer none),(I 1)]) g) (Bd P 132 #[] g λq=>New q 132 g λe t=>Lnl c λm=>VLoop 1 [(I 0)] t λ_ u k f=>Bv .lss k m (Ias 1 c k λv=>Ld v f λy=>Nc e<|Fo 0 e λC=>Ld C f λD=>Bd P 134 #[(0,y)] f λE=>Bs P 130 1 #[(0,E)] f λF G=>Ap P #[130,130] 130 #[D,F] G λJ L=>Nc e<|Fo 0 e λM=>St M J L λN=>Bp .add k (I 1) λO=>KS [e,c,m]<|u O N) (R (.tuple #[e,(I 0)]) f))) (λJ17=>Lnl c λQ=>Bp .eql Q (I 0) λS=>Vif S (KS [c]<|J17 (.bool true) w) (Lnl c λU=>Bv .gtr U (I 16) (KS [c]<|J17 (.bool true) w) (Cl P 66 #[c,(.func (.func 67) #[] #[])] w λW Y=>KS [c]<|J17 W Y)))
theorem Tz29 (h:Vz29 prog a0 w R):Cl prog 29 #[a0] w R:=
 tz 40 [(.tmp 2),(.tmp 3)] (s z (s (j [18] [0] z (i (s z z) z)) (s z (s (s z (b (l [23] [4,21,22] (s z (s (i z z) (s (b (s z z)) z)))))) (s z z))))) [a0] func29 h
def Vz30:VT2:=λP c g w R=>
 Lnl c λk=>VLoop 2 [(.slice none 0 0),(I 0)] w λ_ t m e f=>Bv .lss e k (Ias 5 c e λu=>LdA 5 u f λv=>New (zeroP P 51) 51 f λp y=>StA 5 p v y λq=>LdA 5 p q λC=>Inv P (do let d <-Deferred.ofValue g #[C];invoke d.target d.args) q λD E=>Bs P 66 1 #[(0,D)] E λF G=>Ap P #[66,66] 66 #[m,F] G λJ L=>Bp .add e (I 1) λM=>KS [g,c,k]<|t J M L) (R m f)
theorem Tz30 (h:Vz30 prog a0 a1 w R):Cl prog 30 #[a0,a1] w R:=
 tz 22 [(.tmp 4)] (s z (s z (s (s z (b (l [5,10] [1,8,9] (s z (s (i z z) (s (b (s z z)) z)))))) (s z z)))) [a0,a1] func30 h
def Vz31:VT1:=λP e w R=>
 New e 51 w λf c=>Fo 2 f λg=>Ld g c λk=>R k c
theorem Tz31 (h:Vz31 prog a0 w R):Cl prog 31 #[a0] w R:=
 tz 5 [(.tmp 2)] (s z (s z z)) [a0] func31 h
def Vz32:VT2:=λP e f w R=>
 Lnl f λc=>Cl P 66 #[f,(.func (.func 69) #[] #[])] w λL g=>VJoin 1 (λ_ M m=>Vif M (R (.tuple #[(.pointer none),(I 1)]) m) (Dr m λk=>(Cl P 71 #[f] k λp q=>(Ms P 66 c c q λN O=>Ms P 66 c c O λQ t=>Bd P 137 #[(0,e),(2,p),(3,N),(4,Q)] t λS=>New S 137 t λU W=>R (.tuple #[U,(I 0)]) W)/\(Ms P 66 c c q λY Z=>Ms P 66 c c Z λa0 u=>Bd P 137 #[(0,e),(2,p),(3,a0),(4,Y)] u λa1=>New a1 137 u λa2 a3=>R (.tuple #[a2,(I 0)]) a3))/\((Ms P 66 c c k λv y=>(Cl P 71 #[f] y λa4 a5=>Ms P 66 c c a5 λa6 C=>Bd P 137 #[(0,e),(2,a4),(3,v),(4,a6)] C λa7=>New a7 137 C λa8 a9=>R (.tuple #[a8,(I 0)]) a9)/\(Ms P 66 c c y λb0 b1=>Cl P 71 #[f] b1 λb2 D=>Bd P 137 #[(0,e),(2,b2),(3,v),(4,b0)] D λb3=>New b3 137 D λb4 b5=>R (.tuple #[b4,(I 0)]) b5))/\(Ms P 66 c c k λE F=>(Cl P 71 #[f] F λb6 b7=>Ms P 66 c c b7 λb8 G=>Bd P 137 #[(0,e),(2,b6),(3,b8),(4,E)] G λb9=>New b9 137 G λc0 c1=>R (.tuple #[c0,(I 0)]) c1)/\(Ms P 66 c c F λc2 c3=>Cl P 71 #[f] c3 λc4 J=>Bd P 137 #[(0,e),(2,c4),(3,c2),(4,E)] J λc5=>New c5 137 J λc6 c7=>R (.tuple #[c6,(I 0)]) c7))))) (λJ37=>Bv .lss e (I 1) (KS [e,f,c]<|J37 (.bool true) g) (Bv .gtr e (I 1048576) (KS [e,f,c]<|J37 (.bool true) g) (Bv .eql c (I 0) (KS [e,f,c]<|J37 (.bool true) g) (Bv .gtr c (I 16) (KS [e,f,c]<|J37 (.bool true) g) (KS [e,f,c]<|J37 L g)))))
theorem Tz32 (h:Vz32 prog a0 a1 w R):Cl prog 32 #[a0,a1] w R:=
 tz 38 [(.tmp 4),(.tmp 5)] (s z (s z (s z (s (j [28] [0,1,6] z (i (s z z) z)) (s (r (.tree [0,0,2,0,8,0,32,127,255,511,1023] (.op 0 (.op 1 (.op 3 (.op 5 (.fk (.op 2 (.fk (.op 4 (.op 6 (.op 7 (.op 8 (.op 9 (.op 10 .dn)))))) (.op 6 (.op 4 (.op 7 (.op 8 (.op 9 (.op 10 .dn)))))))) (.fk (.op 4 (.fk (.op 2 (.op 6 (.op 7 (.op 8 (.op 9 (.op 10 .dn)))))) (.op 6 (.op 2 (.op 7 (.op 8 (.op 9 (.op 10 .dn)))))))) (.op 6 (.fk (.op 2 (.op 4 (.op 7 (.op 8 (.op 9 (.op 10 .dn)))))) (.op 4 (.op 2 (.op 7 (.op 8 (.op 9 (.op 10 .dn)))))))))))))))) z))))) [a0,a1] func32 h
def Vz33:VT1:=λP e w R=>
 New e 51 w λf c=>Fo 3 f λg=>Ld g c λk=>R k c
theorem Tz33 (h:Vz33 prog a0 w R):Cl prog 33 #[a0] w R:=
 tz 5 [(.tmp 2)] (s z (s z z)) [a0] func33 h
def Vz34:VT1:=λP c w R=>
 Cl P 66 #[c,(.func (.func 72) #[] #[])] w λF m=>VJoin 1 (λ_ G u=>Vif G (R (.tuple #[(.pointer none),(I 1)]) u) (Cl P 73 #[] u λJ v=>Bd P 142 #[(1,J)] v λL=>New L 142 v λe M=>Lnl c λy=>VLoop 1 [(I 0)] M λ_ N p q=>Bv .lss p y (Ias 1 c p λO=>Ld O q λQ=>Dr q λC=>Nc e<|Fo 0 e λg=>Ld g C λk=>Cl P 73 #[] C λS t=>Rk (λw K=>Ld g w λf=>K f) k t<|Bd P 145 #[(0,S),(1,Q)] t λU=>New U 145 t λW D=>Rk (λw K=>Ld g w λf=>K f) k D<|Bs P 140 1 #[(0,W)] D λY E=>Rk (λw K=>Ld g w λf=>K f) k E<|Ap P #[140,140] 140 #[k,Y] E λZ a0=>Nc e<|Fo 0 e λa1=>St a1 Z a0 λa2=>Bp .add p (I 1) λa3=>KS [e,c,y]<|N a3 a2) (R (.tuple #[e,(I 0)]) q))) (λJ23=>Lnl c λa4=>Bp .eql a4 (I 0) λa5=>Vif a5 (KS [c]<|J23 (.bool true) m) (Lnl c λa6=>Bv .gtr a6 (I 16) (KS [c]<|J23 (.bool true) m) (KS [c]<|J23 F m)))
theorem Tz34 (h:Vz34 prog a0 w R):Cl prog 34 #[a0] w R:=
 tz 45 [(.tmp 2),(.tmp 3)] (s z (s z (s (j [20] [0] z (i (s z z) z)) (s z (s (s z (b (l [26] [5,24,25] (s z (s (i z z) (s (b (s z (r (.staged [0,0,2,6,14,0,0,96,224,480,1022,2047,4095,8191])))) z)))))) (s z z)))))) [a0] func34 h
def Vz35:VT1:=λP e w R=>
 New e 51 w λf c=>Fo 4 f λg=>Ld g c λk=>R k c
theorem Tz35 (h:Vz35 prog a0 w R):Cl prog 35 #[a0] w R:=
 tz 5 [(.tmp 2)] (s z (s z z)) [a0] func35 h
def Vz36:VT1:=λP c w R=>
 Bp .quo c (I 16777216) λe=>Ci .u8 e λf=>Bp .quo c (I 65536) λg=>Bp .rem g (I 256) λk=>Ci .u8 k λm=>Bp .quo c (I 256) λp=>Bp .rem p (I 256) λq=>Ci .u8 q λt=>Bp .rem c (I 256) λu=>Ci .u8 u λv=>Bs P 79 4 #[(0,f),(1,m),(2,t),(3,v)] w λy C=>Cw P 79 9 y C λD E=>R D E
theorem Tz36 (h:Vz36 prog a0 w R):Cl prog 36 #[a0] w R:=
 tz 19 [(.tmp 2)] (s z (s z z)) [a0] func36 h
def Vz37:VT1:=λP c w R=>
 Bv .geq c (I 0) (Bp .lss c (I 64) λe=>R e w) (R (.bool false) w)
theorem Tz37 (h:Vz37 prog a0 w R):Cl prog 37 #[a0] w R:=
 tz 9 [(.tmp 2)] (s z (s z z)) [a0] func37 h
def Vz38:VT2:=λP c e w R=>
 Nc c<|Fo 7 c λu=>Ld u w λv=>Lk P 75 v e false w λf=>Bn P 88 false f (.pointer none) λy=>Vif y (Cl P 74 #[(I 65545)] w λg k=>Ex g 0 λC=>Ex g 1 λO=>Nc c<|Fo 0 c λD=>Fo 0 D λE=>Ld E k λF=>Cl P 75 #[F] k λm p=>Ex m 0 λG=>Ex m 1 λQ=>Bd P 88 #[(0,e),(1,C),(2,G)] p λJ=>New J 88 p λq t=>Nc c<|Fo 7 c λL=>Ld L t λM=>Mu P 75 M e q t λN=>R q N) (R f w)
theorem Tz38 (h:Vz38 prog a0 a1 w R):Cl prog 38 #[a0,a1] w R:=
 tz 43 [(.tmp 4)] (s z (s z (s (s z (i (s z (s z (s z z))) z)) (s z z)))) [a0,a1] func38 h
def Vz39:VT2:=λP c e w R=>
 VJoin 1 (λ_ p g=>Vif p (R (I 0) g) (Dr g λf=>Lns e λq=>Nc c<|Fo 0 c λt=>Ld t f λu=>Nc c<|Fo 1 c λv=>Ld v f λy=>Lns y λC=>Bp .sub u C λD=>Bmin P #[3,3] 3 #[q,D] f λk=>Dr f λm=>Nc c<|Fo 1 c λE=>Ld E m λF=>Sst e none (some k) λG=>Bp .add F G λJ=>Nc c<|Fo 1 c λL=>St L J m λM=>R k M)) (λJ22=>Bn P 151 false c (.pointer none) λN=>Vif N (KS [c,e]<|J22 (.bool true) w) (Nc c<|Fo 2 c λO=>Ld O w λQ=>Bp .neq Q (I 0) λS=>KS [c,e]<|J22 S w))
theorem Tz39 (h:Vz39 prog a0 a1 w R):Cl prog 39 #[a0,a1] w R:=
 tz 39 [(.tmp 4)] (s z (s (j [14] [0,1] z (i (s z z) z)) (s (r (.staged [0,1,0,4,12,28,0,64,192,448,960,2044,4095,8191])) (s (r (.staged [0,1,3,7,0,0,48,127,255,511,1023])) (s z z))))) [a0,a1] func39 h
def Vz40:VT2:=λP e c w R=>
 VLoop 1 [(.bool false)] w λ_ S k m=>VJoin 1 (λ_ U p=>Vif U (Nc c<|Fo 1 c λW=>Ld W p λY=>Cl P 76 #[Y] p λq Z=>Ex q 0 λa0=>Ex q 1 λa1=>Ex q 2 λy=>New (zeroP P 41) 41 Z λg a2=>StA 3 g a0 a2 λt=>Bv .neq y (I 0) (Cl P 77 #[c,(I 0),y] t λc4 a3=>Cl P 78 #[e,c] a3 λc5 a4=>R (.bool true) a4) (Up .not a1 λa5=>Vif a5 (R k t) (VJoin 1 (λ_ a6 C=>LdA 8 a6 C λa7=>Cl P 80 #[e,c,a7] C λc6 a8=>KS [e,c]<|S (.bool true) a8) (λJ18=>Dr t λf=>(Nc c<|Fo 2 c λD=>Ld D f λE=>LdA 3 g f λF=>Cl P 79 #[E,F] f λG a9=>Ex G 0 λb0=>Ex G 1 λc7=>New (zeroP P 158) 158 a9 λJ u=>Rk (λw K=>LdA 3 g w λb1=>K b1) F u<|Rk (λw K=>Ld D w λb2=>K b2) E u<|StA 8 J b0 u λb3=>KS [e,c]<|J18 J b3)/\(Nc c<|Fo 2 c λL=>Ld L f λM=>LdA 3 g f λN=>New (zeroP P 158) 158 f λO v=>Rk (λw K=>LdA 3 g w λb4=>K b4) N v<|Rk (λw K=>Ld L w λb5=>K b5) M v<|Cl P 79 #[M,N] v λQ b6=>Ex Q 0 λb7=>Ex Q 1 λc8=>StA 8 O b7 b6 λb8=>KS [e,c]<|J18 O b8))))) (R k p)) (λJ37=>Nc c<|Fo 5 c λb9=>Ld b9 m λc0=>Bv .eql c0 (I 0) (Nc c<|Fo 6 c λc1=>Ld c1 m λc2=>Up .not c2 λc3=>KS [e,c,k]<|J37 c3 m) (KS [e,c,k]<|J37 (.bool false) m))
theorem Tz40 (h:Vz40 prog a0 a1 w R):Cl prog 40 #[a0,a1] w R:=
 tz 56 [(.tmp 4)] (s z (s z (s (b (l [5] [0,1] (s (j [22] [0,1,5] z (i z z)) (b (s z (s (s z (i (s z (s z (s z z))) z)) (s (s z (i z z)) (j [9] [0,1] (r (.two [0,1,3,7,0,31,63,127,127,0,767,2047] 5 9 [0,1,2,3,4,5,6,7,8,9,10,11] [0,1,2,3,4,9,5,6,7,8,10,11])) (s z z))))))))) (s z z)))) [a0,a1] func40 h
def Vz41:VT2:=λP N O w R=>
 New N 35 w λp Q=>New O 41 Q λc S=>New (zeroP P 93) 93 S λe u=>LdA 2 p u λU=>Cl P 14 #[U] u λW q=>Bv .lss W (I 0) (LdA 2 p q λY=>LdA 3 c q λZ=>Cl P 81 #[Y,Z] q λa0 a1=>StA 8 e a0 a1 λv=>LdA 8 e v λa2=>R a2 v) (LdA 3 c q λa3=>Cl P 82 #[a3] q λa4 a5=>New (zeroP P 165) 165 a5 λm a6=>StA 8 m a4 a6 λf=>Fo 7 m λa7=>Ld a7 f λa8=>Up .not a8 λa9=>Vif a9 (LdA 3 c f λb0=>Cl P 83 #[b0,(I 35)] f λb1 b2=>StA 8 e b1 b2 λy=>LdA 8 e y λb3=>R b3 y) (Fo 0 c λb4=>Ld b4 f λb5=>Bv .eql b5 (I 1) (LdA 3 c f λb6=>Cl P 83 #[b6,(I 8)] f λb7 b8=>StA 8 e b7 b8 λC=>LdA 8 e C λb9=>R b9 C) (Fo 0 c λc0=>Ld c0 f λc1=>Bv .eql c1 (I 2) (LdA 2 p f λc2=>LdA 3 c f λc3=>Fo 0 m λc4=>LdA 7 c4 f λc5=>Cl P 84 #[c2,c3,c5] f λc6 c7=>StA 8 e c6 c7 λD=>LdA 8 e D λc8=>R c8 D) (Fo 0 c λc9=>Ld c9 f λd0=>Bv .eql d0 (I 7) (Bd P 93 #[(0,(I 8))] f λd1=>StA 8 e d1 f λE=>LdA 8 e E λd2=>R d2 E) (LdA 2 p f λd3=>Fo 1 c λd4=>Ld d4 f λd5=>Cl P 85 #[d3,(I 3),d5] f λd6 t=>Up .not d6 λd7=>Vif d7 (LdA 3 c t λd8=>Cl P 83 #[d8,(I 31)] t λd9 e0=>StA 8 e d9 e0 λF=>LdA 8 e F λe1=>R e1 F) (VJoin 1 (λ_ e2 g=>Vif e2 (LdA 3 c g λe3=>Cl P 83 #[e3,(I 32)] g λe4 e5=>StA 8 e e4 e5 λG=>LdA 8 e G λe6=>R e6 G) (Fo 0 c λe7=>Ld e7 g λe8=>Bv .eql e8 (I 3) (Fo 1 c λe9=>Ld e9 g λf0=>Fo 0 m λf1=>Fo 3 f1 λf2=>Ld f2 g λf3=>Bd P 93 #[(0,(I 4)),(1,f0),(6,f3)] g λf4=>StA 8 e f4 g λJ=>LdA 8 e J λf5=>R f5 J) (Fo 0 c λf6=>Ld f6 g λf7=>Bv .eql f7 (I 6) (Fo 1 c λf8=>Ld f8 g λf9=>Fo 0 m λg0=>Fo 6 g0 λg1=>Ld g1 g λg2=>Bd P 93 #[(0,(I 7)),(1,f9),(5,g2)] g λg3=>StA 8 e g3 g λL=>LdA 8 e L λg4=>R g4 L) (Fo 0 c λg5=>Ld g5 g λg6=>Bp .add g6 (I 1) λg7=>Fo 1 c λg8=>Ld g8 g λg9=>Bd P 93 #[(0,g7),(1,g9)] g λh0=>StA 8 e h0 g λM=>LdA 8 e M λh1=>R h1 M)))) (λJ79=>LdA 2 p t λh2=>Fo 1 c λh3=>Ld h3 t λh4=>Cl P 85 #[h2,(I 6),h4] t λh5 k=>Vif h5 (KS [c,e,m]<|J79 (.bool true) k) (Fo 0 c λh6=>Ld h6 k λh7=>Bp .eql h7 (I 3) λh8=>Vif h8 (LdA 2 p k λh9=>Fo 1 c λi0=>Ld i0 k λi1=>Cl P 85 #[h9,(I 5),i1] k λi2 i3=>KS [c,e,m]<|J79 i2 i3) (Fo 0 c λi4=>Ld i4 k λi5=>Bv .eql i5 (I 4) (LdA 2 p k λi6=>Fo 1 c λi7=>Ld i7 k λi8=>Cl P 85 #[i6,(I 5),i8] k λi9 j0=>KS [c,e,m]<|J79 i9 j0) (KS [c,e,m]<|J79 (.bool false) k))))))))))
theorem Tz41 (h:Vz41 prog a0 a1 w R):Cl prog 41 #[a0,a1] w R:=
 tz 89 [(.cell 4 93)] (s z (s (s z (i (s z z) z)) (s z (s (s z (i (s z z) z)) (s (s z (i (s z z) z)) (s (s z (i (s z z) z)) (s (s z (i (s z z) z)) (s (s z (i (s z z) z)) (s (j [62] [3,4,5] z (i (s z z) z)) (s (s z (i (s z z) z)) (s (s z (i (s z z) z)) (s z z)))))))))))) [a0,a1] func41 h
def Vz42:VT2:=λP p q w R=>
 New p 35 w λe t=>New q 93 t λu v=>New (zeroP P 35) 35 v λf g=>Fo 1 e λy=>Ld y g λC=>Ap P #[33,33] 33 #[(.slice none 0 0),C] g λD k=>LdA 8 u k λE=>Bs P 33 1 #[(0,E)] k λF G=>Ap P #[33,33] 33 #[D,F] G λJ c=>Fo 0 e λL=>Ld L c λM=>Bd P 35 #[(0,M),(1,J)] c λN=>StA 2 f N c λm=>LdA 2 f m λO=>R O m
theorem Tz42 (h:Vz42 prog a0 a1 w R):Cl prog 42 #[a0,a1] w R:=
 tz 18 [(.cell 4 35)] (s z (s z (s z (s z (s z z))))) [a0,a1] func42 h
def Vz43:VT2:=λP F G w R=>
 New F 38 w λf J=>New G 98 J λg L=>New (zeroP P 38) 38 L λq M=>Dr M λc=>Fo 10 f λk=>Ld k c λm=>Fo 0 g λt=>Ld t c λu=>Fo 1 g λv=>Ld v c λy=>LdA 4 g c λN=>Cl P 86 #[N] c λO e=>Rk (λw K=>Ld v w λQ=>K Q) y e<|Rk (λw K=>Ld t w λS=>K S) u e<|Rk (λw K=>Ld k w λp=>K p) m e<|Bd P 41 #[(0,u),(1,y),(2,O)] e λU=>Cl P 9 #[U] e λW C=>Rk (λw K=>Ld k w λp=>K p) m C<|Bp .add m W λY=>Fo 10 f λZ=>St Z Y C λD=>LdA 12 f D λa0=>StA 12 q a0 D λE=>LdA 12 q E λa1=>R a1 E
theorem Tz43 (h:Vz43 prog a0 a1 w R):Cl prog 43 #[a0,a1] w R:=
 tz 18 [(.cell 4 38)] (s z (s (r (.staged [0,1,0,4,0,16,0,64,252,508,1023,2047,4095])) (s z z))) [a0,a1] func43 h
def Vz44:VT2:=λP N O w R=>
 New N 38 w λc Q=>New O 93 Q λe S=>New (zeroP P 38) 38 S λf U=>Dr U λu=>Fo 0 c λW=>Fo 0 W λv=>Ld v u λy=>Fo 7 c λY=>LdA 2 Y u λZ=>Cl P 14 #[Z] u λa0 m=>Rk (λw K=>Ld v w λa1=>K a1) y m<|Ias 5 y a0 λa2=>Fo 2 a2 λa3=>Ld a3 m λC=>Fo 3 e λa4=>Ld a4 m λa5=>Fo 4 e λa6=>Ld a6 m λa7=>Fo 0 c λa8=>Fo 1 a8 λa9=>Ld a9 m λb0=>Fo 0 c λb1=>Fo 2 b1 λb2=>Ld b2 m λb3=>Cl P 87 #[a5,a7,b0,b3] m λg p=>VJoin 1 (λ_ D k=>Bv .neq D (I 0) (LdA 12 c k λb4=>Fo 1 e λb5=>Ld b5 k λb6=>Bd P 98 #[(0,(I 69)),(1,b6),(3,D)] k λb7=>Cl P 43 #[b4,b7] k λb8 b9=>StA 12 f b8 b9 λE=>LdA 12 f E λc0=>R c0 E) (Fo 1 e λc1=>Ld c1 k λc2=>Fo 0 c λc3=>Fo 2 c3 λc4=>Ld c4 k λc5=>Bd P 102 #[(0,c2),(1,g),(2,c5)] k λc6=>New (zeroP P 102) 102 k λq c7=>StA 5 q c6 c7 λt=>VJoin 0 (λ_ F=>Fo 9 c λc8=>Ld c8 F λc9=>Ap P #[36,36] 36 #[(.slice none 0 0),c9] F λd0 G=>LdA 5 q G λd1=>Bs P 36 1 #[(0,d1)] G λd2 d3=>Ap P #[36,36] 36 #[d0,d2] d3 λd4 d5=>Fo 9 c λd6=>St d6 d4 d5 λJ=>LdA 12 c J λd7=>StA 12 f d7 J λL=>LdA 12 f L λd8=>R d8 L) (λJ51=>Fo 3 e λd9=>Ld d9 t λe0=>Bv .eql e0 (I 1) (Fo 4 e λe1=>Ld e1 t λe2=>Fo 4 e λe3=>Ld e3 t λe4=>Bp .add e4 (I 1) λe5=>Sst (.string ⟨#[48,49,50,51,52,53,54,55,56,57]⟩) (some e2) (some e5) λe6=>Bp .add (.string ⟨#[66,90,104]⟩) e6 λe7=>Fo 3 q λe8=>St e8 e7 t λe9=>KS [c,f,q]<|J51 e9) (KS [c,f,q]<|J51 t)))) (λJ63=>Bp .gtr g C λf0=>Vif f0 (KS [c,e,f,g]<|J63 (I 33) p) (VJoin 1 (λ_ f1 M=>Vif f1 (KS [c,e,f,g]<|J63 (I 34) M) (KS [c,e,f,g]<|J63 (I 0) M)) (λJ66=>Fo 9 c λf2=>Ld f2 p λf3=>Lnl f3 λf4=>Fo 0 c λf5=>Fo 5 f5 λf6=>Ld f6 p λf7=>Bv .eql f4 f7 (KS [c,e,f,g,(I 0)]<|J66 (.bool true) p) (LdA 12 c p λf8=>Cl P 16 #[f8] p λf9 g0=>Bp .sub C f9 λg1=>Bp .gtr g g1 λg2=>KS [c,e,f,g,(I 0)]<|J66 g2 g0))))
theorem Tz44 (h:Vz44 prog a0 a1 w R):Cl prog 44 #[a0,a1] w R:=
 tz 85 [(.cell 4 38)] (s z (s (r (.staged [0,1,3,0,8,24,63,127,255,511])) (s z (s z (j [7] [2,3,4,6] (s z (i z (j [47] [2,3,4,6,7] z (i z z)))) (s (s z (i (s z z) z)) (s z (j [] [2,4,8] (s z (i z z)) (s z (s z (s z (s z (s z z))))))))))))) [a0,a1] func44 h
def Vz45:VT1:=λP b0 w R=>
 New b0 38 w λc b1=>VJoin 1 (λ_ O b2=>Dr b2 λg=>Fo 9 c λQ=>Ld Q g λu=>Lnl u λS=>LdA 12 c g λb3=>Cl P 16 #[b3] g λb4 k=>Rk (λw K=>Lnl u λb5=>K b5) S k<|Rk (λw K=>Ld Q w λb6=>K b6) u k<|Fo 2 O λU=>Ld U k λW=>Rk (λw K=>Ld U w λb7=>K b7) W g<|Fo 3 O λY=>Ld Y k λZ=>Rk (λw K=>Ld Y w λb8=>K b8) Z g<|Bs P 66 5 #[(0,(I 0)),(1,S),(2,b4),(3,W),(4,Z)] k λm b9=>Lnl m λp=>VLoop 2 [(.string ⟨#[]⟩),(I 0)] b9 λ_ c0 v f q=>Bv .lss f p (Ias 1 m f λc1=>Ld c1 q λy=>VJoin 1 (λ_ c2 c3=>Cl P 88 #[y] c3 λc4 c5=>Bp .add c2 c4 λc6=>Bp .add f (I 1) λc7=>KS [m,p]<|c0 c6 c7 c5) (λJ31=>Bp .gtr f (I 0) λc8=>Vif c8 (Bp .add v (.string ⟨#[32]⟩) λc9=>KS [y,m,p,f]<|J31 c9 q) (KS [y,m,p,f]<|J31 v q))) (R v q)) (λJ34=>Dr b1 λe=>(Fo 0 c λd0=>Fo 0 d0 λC=>Ld C e λD=>Fo 7 c λa0=>LdA 2 a0 e λa1=>Cl P 14 #[a1] e λd1 E=>Rk (λw K=>Ld C w λF=>K F) D E<|Ias 5 D d1 λa2=>LdA 5 a2 E λa3=>New (zeroP P 51) 51 E λa4 t=>Rk (λw K=>LdA 5 a2 w λd2=>K d2) a3 t<|Rk (λw K=>LdA 2 a0 w λd3=>K d3) a1 t<|Rk (λw K=>Ld C w λF=>K F) D t<|StA 5 a4 a3 t λd4=>KS [c]<|J34 a4 d4)/\(Fo 0 c λd5=>Fo 0 d5 λG=>Ld G e λJ=>Fo 7 c λa5=>LdA 2 a5 e λa6=>New (zeroP P 51) 51 e λa7 L=>Rk (λw K=>LdA 2 a5 w λd6=>K d6) a6 L<|Rk (λw K=>Ld G w λM=>K M) J L<|Cl P 14 #[a6] L λd7 N=>Rk (λw K=>Ld G w λM=>K M) J N<|Ias 5 J d7 λa8=>LdA 5 a8 N λa9=>Rk (λw K=>LdA 5 a8 w λd8=>K d8) a9 e<|StA 5 a7 a9 N λd9=>KS [c]<|J34 a7 d9))
theorem Tz45 (h:Vz45 prog a0 w R):Cl prog 45 #[a0] w R:=
 tz 43 [(.tmp 2)] (s z (j [3] [1] (r (.two [0,1,3,0,8,24,63,127,0,511] 5 8 [0,1,2,3,4,5,6,7,8,9] [0,1,2,3,4,8,5,6,7,9])) (s (r (.staged [0,1,3,0,8,0,32,0,128,511,1023])) (s z (s (s z (b (l [5,28] [26,27] (s z (s (i z z) (s (b (s z (j [5] [7,26,27,28] (s z (i z z)) z))) z)))))) (s z z)))))) [a0] func45 h
def Vz46:VT2:=λP L M w R=>
 New L 38 w λf N=>New M 93 N λk O=>New (zeroP P 38) 38 O λe C=>Fo 9 f λQ=>Ld Q C λm=>Lnl m λu=>VLoop 1 [(I 0)] C λ_ D p q=>Bv .lss p u (Ias 5 m p λS=>LdA 5 S q λU=>New (zeroP P 102) 102 q λg W=>StA 5 g U W λc=>Fo 0 g λY=>Ld Y c λZ=>Fo 1 k λa0=>Ld a0 c λa1=>Bv .neq Z a1 (Bp .add p (I 1) λa2=>KS [f,k,e,m,u]<|D a2 c) (Fo 0 k λa3=>Ld a3 c λv=>Bp .eql v (I 4) λa4=>Vif a4 (Fo 6 k λa5=>Ld a5 c λa6=>Lns a6 λa7=>Fo 2 g λa8=>Ld a8 c λa9=>Bp .gtr a7 a9 λb0=>Fo 11 f λb1=>St b1 b0 c λt=>Fo 2 g λb2=>Ld b2 t λb3=>Fo 6 k λb4=>Ld b4 t λb5=>Lns b5 λb6=>Bp .sub b3 b6 λb7=>Bmax P #[3,3] 3 #[(I 0),b7] t λb8=>Fo 2 g λb9=>St b9 b8 t λy=>LdA 12 f y λc0=>LdA 5 g y λc1=>Cl P 89 #[c0,c1,(.bool false)] y λc2 c3=>StA 12 e c2 c3 λE=>LdA 12 e E λc4=>R c4 E) (Bp .eql v (I 6) λc5=>Vif c5 (LdA 12 f c λc6=>LdA 5 g c λc7=>Cl P 89 #[c6,c7,(.bool true)] c λc8 c9=>StA 12 e c8 c9 λF=>LdA 12 e F λd0=>R d0 F) (Bv .eql v (I 7) (LdA 12 f c λd1=>LdA 5 g c λd2=>Fo 5 k λd3=>Ld d3 c λd4=>Cl P 90 #[d1,d2,d4] c λd5 d6=>StA 12 e d5 d6 λG=>LdA 12 e G λd7=>R d7 G) (Bp .add p (I 1) λd8=>KS [f,k,e,m,u]<|D d8 c))))) (LdA 12 f q λd9=>StA 12 e d9 q λJ=>LdA 12 e J λe0=>R e0 J)
theorem Tz46 (h:Vz46 prog a0 a1 w R):Cl prog 46 #[a0,a1] w R:=
 tz 55 [(.cell 4 38)] (s z (s (s z (b (l [10] [2,3,4,8,9] (s z (s (i z z) (s (b (s z (s (s z (i z z)) (s z (b (s z (i (s z (s z (s z z))) (s z (i (s z z) (s z (i (s z z) z))))))))))) z)))))) (s z z))) [a0,a1] func46 h
def Vz47:VT2:=λP c e w R=>
 Bn P 78 false c (.pointer none) λf=>Vif f (R (.pointer none) w) (Nc c<|Fo 7 c λg=>Ld g w λk=>Lk P 75 k e false w λm=>R m w)
theorem Tz47 (h:Vz47 prog a0 a1 w R):Cl prog 47 #[a0,a1] w R:=
 tz 13 [(.tmp 4)] (s z (s (s z (i (s z z) z)) (s z z))) [a0,a1] func47 h
def Vz48:VT1:=λP c w R=>
 Dr w λe=>Nc c<|Fo 1 c λp=>Ld p e λq=>Usd P #[79] 173 #[q] e λt g=>Nc c<|Fo 1 c λk=>Ld k g λf=>Rk (λw K=>Ld k w λu=>K u) f e<|Lnl f λm=>Rk (λw K=>Lnl f λv=>K v) m e<|Ust P #[173,3] 9 #[t,m] g λy C=>R y C
theorem Tz48 (h:Vz48 prog a0 w R):Cl prog 48 #[a0] w R:=
 tz 14 [(.tmp 2)] (s z (s (r (.staged [0,1,3,7,15,0,32,96,224,480,1023,2047])) z)) [a0] func48 h
def Vz49:VT2:=λP c e w R=>
 Cl P 91 #[c,e,(.func (.func 92) #[] #[])] w λf g=>R f g
theorem Tz49 (h:Vz49 prog a0 a1 w R):Cl prog 49 #[a0,a1] w R:=
 tz 8 [(.tmp 4)] (s z (s z z)) [a0,a1] func49 h
def Vz50:VT2:=λP e f w R=>
 New f 3 w λg c=>Mf P (.func 94) #[] #[g] c λk=>Cl P 93 #[e,k] c λm p=>R m p
theorem Tz50 (h:Vz50 prog a0 a1 w R):Cl prog 50 #[a0,a1] w R:=
 tz 8 [(.tmp 4)] (s z (s z z)) [a0,a1] func50 h
def Vz51:VT1:=λP c w R=>
 Bv .geq c (I 1) (Bv .leq c (I 7) (R (.bool true) w) (Bv .geq c (I 65) (Bp .leq c (I 70) λe=>R e w) (R (.bool false) w))) (Bp .geq c (I 65) λf=>Vif f (Bp .leq c (I 70) λg=>R g w) (R (.bool false) w))
theorem Tz51 (h:Vz51 prog a0 w R):Cl prog 51 #[a0] w R:=
 tz 17 [(.tmp 2)] (s z (s z z)) [a0] func51 h
def Vz52:VT1:=λP p w R=>
 New p 51 w λc m=>Fo 0 c λq=>Ld q m λt=>Cl P 95 #[t] m λu e=>Vif u (Fo 1 c λv=>Ld v e λy=>Cl P 95 #[y] e λC f=>Vif C (Fo 2 c λD=>Ld D f λE=>Cl P 21 #[E,(I 0)] f λF g=>Vif F (Fo 3 c λG=>Ld G g λJ=>Cl P 21 #[J,(I 1)] g λL k=>Vif L (Fo 4 c λM=>Ld M k λN=>Cl P 21 #[N,(I 1)] k λO Q=>R O Q) (R (.bool false) k)) (R (.bool false) g)) (R (.bool false) f)) (R (.bool false) e)
theorem Tz52 (h:Vz52 prog a0 w R):Cl prog 52 #[a0] w R:=
 tz 26 [(.tmp 2)] (s z (s z z)) [a0] func52 h
def Vz55:VT2:=λP f t w R=>
 New t 3 w λu v=>New (zeroP P 111) 111 v λc g=>Bn P 128 false f (.pointer none) λy=>Vif y (Bd P 111 #[] g λC=>StA 4 c C g λk=>LdA 4 c k λD=>R (.tuple #[D,(I 7)]) k) (Mf P (.func 101) #[] #[u] g λE=>Cl P 100 #[f,E] g λm e=>Bv .lss m (I 0) (Bd P 111 #[] e λF=>StA 4 c F e λp=>LdA 4 c p λG=>R (.tuple #[G,(I 6)]) p) (Nc f<|Fo 2 f λJ=>Ld J e λL=>Ias 5 L m λM=>Fo 0 M λN=>LdA 4 N e λO=>StA 4 c O e λq=>LdA 4 c q λQ=>R (.tuple #[Q,(I 0)]) q))
theorem Tz55 (h:Vz55 prog a0 a1 w R):Cl prog 55 #[a0,a1] w R:=
 tz 24 [(.cell 4 111),(.tmp 5)] (s z (s (s z (i (s z z) z)) (s z (s (s z (i (s z z) z)) (s z z))))) [a0,a1] func55 h
def Vz59:VT1:=λP c w R=>
 Bn P 186 false c (.pointer none) λe=>Vif e (R (.bool true) w) (Nc c<|Fo 1 c λf=>Ld f w λg=>Inv P (invoke (.fn (.method "Stopped") #[]) (#[g] ++ #[])) w λk m=>R k m)
theorem Tz59 (h:Vz59 prog a0 w R):Cl prog 59 #[a0] w R:=
 tz 12 [(.tmp 2)] (s z (s z z)) [a0] func59 h
def Vz60:VT2:=λP e g w R=>
 Nc e<|Fo 9 e λO=>Ld O w λQ=>Cl P 55 #[Q,g] w λE S=>Ex E 0 λU=>Ex E 1 λg1=>New (zeroP P 111) 111 S λk W=>StA 4 k U W λY=>Dr Y λm=>Nc e<|Fo 8 e λZ=>Ld Z m λa0=>Lk P 76 a0 g false m λc=>Nc e<|Fo 7 e λa1=>Ld a1 m λa2=>Fo 0 k λa3=>Ld a3 m λa4=>Lk P 75 a2 a4 false m λf=>Nc c<|Fo 1 c λa5=>Ld a5 m λa6=>Cl P 106 #[a6] m λg2 F=>VJoin 0 (λ_ a7=>VLoop 0 [] a7 λ_ a8 G=>Nc c<|Fo 2 c λa9=>Ld a9 G λb0=>Cl P 108 #[b0] G λJ p=>Ex J 0 λb1=>Ex J 1 λb2=>Up .not b2 λb3=>Vif b3 (VJoin 1 (λ_ b4 u=>Vif b4 (Dr u λv=>Fo 1 k λL=>Ld L v λM=>Nc c<|Fo 0 c λb5=>Ld b5 v λb6=>Cl P 111 #[b6] v λb7 y=>Rk (λw K=>Ld L w λb8=>K b8) M y<|Bd P 192 #[(0,(I 68)),(1,M),(3,b7)] y λb9=>Cl P 109 #[f,b9] y λg3 c0=>Cl P 112 #[e,g] c0 λg4 c1=>R (.tuple #[]) c1) (Nc c<|Fo 0 c λc2=>Ld c2 u λc3=>Cl P 110 #[c3] u λc4 q=>Vif c4 (Fo 1 k λc5=>Ld c5 q λc6=>Bd P 192 #[(0,(I 67)),(1,c6)] q λc7=>Cl P 109 #[f,c7] q λg5 c8=>Cl P 112 #[e,g] c8 λg6 c9=>R (.tuple #[]) c9) (Nc c<|Fo 0 c λd0=>Ld d0 q λd1=>Cl P 59 #[d1] q λd2 N=>Up .not d2 λd3=>Vif d3 (Dr N λC=>Nc e<|Fo 12 e λd4=>Ld d4 C λd5=>Fo 2 k λd6=>Ld d6 C λd7=>Cl P 113 #[d5,d7,g] C λg7 d8=>R (.tuple #[]) d8) (R (.tuple #[]) N)))) (λJ61=>Nc c<|Fo 0 c λd9=>Ld d9 p λe0=>Cl P 110 #[e0] p λe1 D=>Vif e1 (Nc c<|Fo 0 c λe2=>Ld e2 D λe3=>Cl P 111 #[e3] D λe4 e5=>Bp .neq e4 (I 0) λe6=>KS [e,g,k,c,f]<|J61 e6 e5) (KS [e,g,k,c,f]<|J61 (.bool false) D))) (Fo 1 k λe7=>Ld e7 p λe8=>Bd P 192 #[(0,(I 66)),(1,e8),(2,b1)] p λe9=>Cl P 109 #[f,e9] p λg8 f0=>KS [e,g,k,c,f]<|a8 f0)) (λJ73=>Nc c<|Fo 1 c λf1=>Ld f1 F λf2=>Cl P 107 #[f2] F λf3 t=>Bp .gtr f3 (I 0) λf4=>Vif f4 (Nc f<|Fo 5 f λf5=>St f5 g t λf6=>KS [e,g,k,c,f]<|J73 f6) (Nc f<|Fo 5 f λf7=>Ld f7 t λf8=>Bv .eql f8 g (Nc f<|Fo 5 f λf9=>St f9 (I 0) t λg0=>KS [e,g,k,c,f]<|J73 g0) (KS [e,g,k,c,f]<|J73 t)))
theorem Tz60 (h:Vz60 prog a0 a1 w R):Cl prog 60 #[a0,a1] w R:=
 tz 128 [] (s z (s (r (.staged [0,1,3,7,0,31,0,64,192,448,0,1024,4032,63,16383])) (s z (j [] [0,1,4,6,7] (s z (i z (s z (i z z)))) (s (b (l [] [0,1,4,6,7] (b (s z (s (s z (i z z)) z))))) (b (j [72] [0,1,4,6,7] z (i (s (r (.staged [0,0,2,0,8,24,56,120,254,511])) z) (s z (i (s z z) (s z (i (r (.staged [0,1,3,7,0,16,0,127])) z)))))))))))) [a0,a1] func60 h
def Vz63:VT1:=λP c w R=>
 Bn P 137 false c (.pointer none) λe=>Vif e (R (I 0) w) (Nc c<|Fo 1 c λf=>Ld f w λg=>R g w)
theorem Tz63 (h:Vz63 prog a0 w R):Cl prog 63 #[a0] w R:=
 tz 9 [(.tmp 2)] (s z (s (s z (i (s z z) z)) (s z z))) [a0] func63 h
def Vz64:VT1:=λP c w R=>
 Lnl c λu=>Bv .eql u (I 0) (R (.tuple #[(I (-1)),(I 6)]) w) (Lnl c λv=>Bv .gtr v (I 16) (R (.tuple #[(I 16),(I 2)]) w) (Lnl c λk=>VLoop 1 [(I 0)] w λ_ y e f=>Bv .lss e k (Ias 5 c e λC=>LdA 5 C f λD=>New (zeroP P 51) 51 f λg E=>StA 5 g D E λm=>LdA 5 g m λF=>Cl P 116 #[F] m λG p=>Up .not G λJ=>Vif J (R (.tuple #[e,(I 1)]) p) (Dr p λq=>Ssl 5 c none (some e) λL=>LdA 5 g q λM=>Cl P 117 #[L,M] q λN t=>Vif N (R (.tuple #[e,(I 8)]) t) (Bp .add e (I 1) λO=>KS [c,c,k]<|y O t))) (R (.tuple #[(I (-1)),(I 0)]) f)))
theorem Tz64 (h:Vz64 prog a0 w R):Cl prog 64 #[a0] w R:=
 tz 34 [(.tmp 2),(.tmp 3)] (s z (s (b (s z (i (s z z) (s z (i (s z z) z))))) (s (s z (b (l [16] [0,14,15] (s z (s (i z z) (s (b (s z (b (s z (i (s z z) (s (r (.staged [0,0,3,0,15,31])) (i (s z z) z))))))) z)))))) (s z z)))) [a0] func64 h
def Vz65:VT3:=λP c e f w R=>
 Bv .geq c e (Bp .leq c f λg=>R g w) (R (.bool false) w)
theorem Tz65 (h:Vz65 prog a0 a1 a2 w R):Cl prog 65 #[a0,a1,a2] w R:=
 tz 15 [(.tmp 6)] (s z (s z z)) [a0,a1,a2] func65 h
def Vz66:VT2:=λP c e w R=>
 Cl P 118 #[c,e] w λf g=>Bp .geq f (I 0) λk=>R k g
theorem Tz66 (h:Vz66 prog a0 a1 w R):Cl prog 66 #[a0,a1] w R:=
 tz 9 [(.tmp 4)] (s z (s z z)) [a0,a1] func66 h
def Vz67:VT1:=λP c w R=>
 Cl P 68 #[c] w λe f=>Up .not e λg=>R g f
theorem Tz67 (h:Vz67 prog a0 w R):Cl prog 67 #[a0] w R:=
 tz 6 [(.tmp 2)] (s z (s z z)) [a0] func67 h
def Vz68:VT1:=λP c w R=>
 Bv .geq c (I 0) (Bp .leq c (I 1099511627776) λe=>R e w) (R (.bool false) w)
theorem Tz68 (h:Vz68 prog a0 w R):Cl prog 68 #[a0] w R:=
 tz 9 [(.tmp 2)] (s z (s z z)) [a0] func68 h
def Vz69:VT1:=λP c w R=>
 Cl P 70 #[c] w λe f=>Up .not e λg=>R g f
theorem Tz69 (h:Vz69 prog a0 w R):Cl prog 69 #[a0] w R:=
 tz 6 [(.tmp 2)] (s z (s z z)) [a0] func69 h
def Vz70:VT1:=λP c w R=>
 Bv .geq c (I 0) (Bp .leq c (I 1099511627776) λe=>R e w) (R (.bool false) w)
theorem Tz70 (h:Vz70 prog a0 w R):Cl prog 70 #[a0] w R:=
 tz 9 [(.tmp 2)] (s z (s z z)) [a0] func70 h
def Vz71:VT1:=λP c w R=>
 Be P .eql 66 (.tmp 3) (.const (.slice none 0 0)) c (.slice none 0 0) w λe=>Vif e (R (.slice none 0 0) w) (Bs P 66 0 #[] w λf g=>Ap P #[66,66] 66 #[f,c] g λk m=>R k m)
theorem Tz71 (h:Vz71 prog a0 w R):Cl prog 71 #[a0] w R:=
 tz 8 [(.tmp 2)] (s z (s (s z (i (s z z) z)) (s z z))) [a0] func71 h
def Vz72:VT1:=λP c w R=>
 Bv .lss c (I 1) (R (.bool true) w) (Bp .gtr c (I 1099511627776) λe=>R e w)
theorem Tz72 (h:Vz72 prog a0 w R):Cl prog 72 #[a0] w R:=
 tz 9 [(.tmp 2)] (s z (s z z)) [a0] func72 h
def Vz73:VT0:=λP w R=>
 Cl P 119 #[(I 1099511627776)] w λc e=>Ex c 0 λf=>Ex c 1 λg=>R f e
theorem Tz73 (h:Vz73 prog w R):Cl prog 73 #[] w R:=
 tz 8 [(.tmp 0)] (s z (s z (s z z))) [] func73 h
def Vz74:VT1:=λP c w R=>
 VJoin 1 (λ_ f e=>Vif f (R (.tuple #[(.pointer none),(I 1)]) e) (Bd P 151 #[(0,c)] e λg=>New g 151 e λk m=>R (.tuple #[k,(I 0)]) m)) (λJ4=>Bv .lss c (I 9) (KS [c]<|J4 (.bool true) w) (Bp .gtr c (I 65545) λp=>KS [c]<|J4 p w))
theorem Tz74 (h:Vz74 prog a0 w R):Cl prog 74 #[a0] w R:=
 tz 13 [(.tmp 2),(.tmp 3)] (s z (s (j [9] [0] z (i (s z z) z)) (s z z))) [a0] func74 h
def Vz75:VT1:=λP c w R=>
 Cl P 64 #[c] w λe f=>Ex e 0 λy=>Ex e 1 λg=>Bv .neq g (I 0) (R (.tuple #[(.pointer none),g]) f) (Cl P 120 #[c] f λm p=>Mm P 199 none p λq k=>Bd P 201 #[(0,m),(1,(I (-1))),(2,q)] k λt=>New t 201 k λu v=>R (.tuple #[u,(I 0)]) v)
theorem Tz75 (h:Vz75 prog a0 w R):Cl prog 75 #[a0] w R:=
 tz 19 [(.tmp 2),(.tmp 3)] (s z (s (s z (s z (i (s z z) z))) (s z z))) [a0] func75 h
def Vz76:VT1:=λP c w R=>
 New (zeroP P 41) 41 w λe f=>Bn P 151 false c (.pointer none) λQ=>Vif Q (Bd P 41 #[] f λS=>StA 3 e S f λC=>LdA 3 e C λU=>R (.tuple #[U,(.bool false),(I 7)]) C) (Nc c<|Fo 2 c λW=>Ld W f λY=>Bv .neq Y (I 0) (Dr f λp=>Bd P 41 #[] p λZ=>Nc c<|Fo 2 c λD=>Ld D p λE=>StA 3 e Z p λq=>Rk (λw K=>Ld D w λa0=>K a0) E q<|LdA 3 e q λa1=>R (.tuple #[a1,(.bool false),E]) q) (Nc c<|Fo 1 c λa2=>Ld a2 f λa3=>Cl P 121 #[a3] f λt a4=>Ex t 0 λa5=>Ex t 1 λu=>Ex t 2 λg=>New (zeroP P 41) 41 a4 λm a6=>StA 3 m a5 a6 λF=>VJoin 1 (λ_ a7 G=>Vif a7 (Cl P 122 #[c,g] G λv a8=>Ex v 0 λa9=>Ex v 1 λb0=>Ex v 2 λb1=>StA 3 e a9 a8 λJ=>LdA 3 e J λb2=>R (.tuple #[b2,b0,b1]) J) (Cl P 123 #[c] G λb3 k=>Vif b3 (Cl P 122 #[c,(I 2)] k λy b4=>Ex y 0 λb5=>Ex y 1 λb6=>Ex y 2 λb7=>StA 3 e b5 b4 λL=>LdA 3 e L λb8=>R (.tuple #[b8,b6,b7]) L) (Bv .eql g (I 3) (Bd P 41 #[] k λb9=>StA 3 e b9 k λM=>LdA 3 e M λc0=>R (.tuple #[c0,(.bool false),(I 0)]) M) (Nc c<|Fo 1 c λc1=>Ld c1 k λc2=>Sst c2 (some u) none λc3=>Nc c<|Fo 1 c λc4=>St c4 c3 k λN=>LdA 3 m N λc5=>StA 3 e c5 N λO=>LdA 3 e O λc6=>R (.tuple #[c6,(.bool true),(I 0)]) O)))) (λJ42=>Bv .eql g (I 35) (KS [c,e,m,u,g]<|J42 (.bool true) F) (Bp .eql g (I 2) λc7=>KS [c,e,m,u,g]<|J42 c7 F))))
theorem Tz76 (h:Vz76 prog a0 w R):Cl prog 76 #[a0] w R:=
 tz 67 [(.cell 2 41),(.tmp 3),(.tmp 4)] (s z (s (b (s z (i (s z z) (s z (i (s (r (.staged [0,0,2,6,14,1,33,127])) z) z))))) (s z (s (b (j [32] [0,2,5,6,7] z (i (s z z) (s z (i (s z z) (s z (i (s z z) z))))))) (s z (s z z)))))) [a0] func76 h
def Vz77:VT3:=λP c e f w R=>
 Bd P 192 #[(0,(I 69)),(1,e),(3,f)] w λg=>Cl P 109 #[c,g] w λm k=>R (.tuple #[]) k
theorem Tz77 (h:Vz77 prog a0 a1 a2 w R):Cl prog 77 #[a0,a1,a2] w R:=
 tz 11 [] z [a0,a1,a2] func77 h
def Vz79:VT2:=λP f C w R=>
 New C 41 w λk D=>New (zeroP P 158) 158 D λc e=>Bn P 201 false f (.pointer none) λE=>Vif E (Bd P 158 #[] e λF=>StA 8 c F e λm=>LdA 8 c m λG=>R (.tuple #[G,(I 7)]) m) (Nc f<|Fo 1 f λJ=>Ld J e λL=>Bv .eql L (I (-1)) (LdA 3 k e λM=>Cl P 125 #[f,M] e λN O=>StA 8 c N O λp=>LdA 8 c p λQ=>R (.tuple #[Q,(I 0)]) p) (LdA 3 k e λS=>Cl P 126 #[S] e λq U=>Ex q 0 λW=>Ex q 1 λt=>New (zeroP P 206) 206 U λu Y=>StA 7 u W Y λg=>Bv .neq t (I 0) (Fo 1 k λZ=>Ld Z g λa0=>Cl P 127 #[a0,t] g λa1 a2=>StA 8 c a1 a2 λv=>LdA 8 c v λa3=>R (.tuple #[a3,(I 0)]) v) (LdA 7 u g λa4=>Cl P 128 #[f,a4] g λa5 a6=>StA 8 c a5 a6 λy=>LdA 8 c y λa7=>R (.tuple #[a7,(I 0)]) y)))
theorem Tz79 (h:Vz79 prog a0 a1 w R):Cl prog 79 #[a0,a1] w R:=
 tz 35 [(.cell 4 158),(.tmp 5)] (s z (s (b (s z (i (s z z) (s z (i (s z z) z))))) (s z (s (s z (i (s z z) z)) (s z z))))) [a0,a1] func79 h
def Vz80:VT3:=λP g e q w R=>
 New q 158 w λf c=>Fo 0 f λt=>Ld t c λm=>Bv .eql m (I 1) (Fo 1 f λu=>Ld u c λv=>Fo 7 f λy=>Ld y c λC=>Cl P 77 #[e,v,C] c λa7 D=>R (.tuple #[]) D) (Bv .eql m (I 2) (Dr c λk=>Nc g<|Fo 0 g λE=>Fo 0 E λF=>Ld F k λG=>Fo 2 f λJ=>Ld J k λL=>Ias 5 G L λM=>Fo 0 M λN=>Ld N k λO=>Bd P 192 #[(0,(I 65)),(2,O)] k λQ=>Cl P 109 #[e,Q] k λa8 S=>R (.tuple #[]) S) (Bv .eql m (I 8) (Nc e<|Fo 2 e λU=>Ld U c λW=>Cl P 130 #[W] c λY Z=>Cl P 129 #[g,Y] Z λa0 p=>Bd P 192 #[(0,(I 70)),(2,a0)] p λa1=>Cl P 109 #[e,a1] p λa9 a2=>R (.tuple #[]) a2) (Bv .eql m (I 3) (LdA 8 f c λa3=>Cl P 131 #[g,e,a3] c λb0 a4=>R (.tuple #[]) a4) (LdA 8 f c λa5=>Cl P 132 #[g,e,a5] c λb1 a6=>R (.tuple #[]) a6))))
theorem Tz80 (h:Vz80 prog a0 a1 a2 w R):Cl prog 80 #[a0,a1,a2] w R:=
 tz 53 [] (s z (s z (b (s z (i z (s z (i (r (.staged [0,0,2,6,14,30,0,64,254,510,1022,2046,4095])) (s z (i z (s z (i z z))))))))))) [a0,a1,a2] func80 h
def Vz81:VT2:=λP v y w R=>
 New v 35 w λC D=>New y 41 D λe E=>New (zeroP P 93) 93 E λc q=>LdA 3 e q λF=>Cl P 82 #[F] q λG J=>New (zeroP P 165) 165 J λk L=>StA 8 k G L λp=>Fo 0 C λM=>Ld M p λN=>Fo 0 k λO=>Fo 2 O λQ=>Ld Q p λS=>Cl P 133 #[N,S] p λf g=>VJoin 1 (λ_ U m=>Vif U (LdA 3 e m λW=>Cl P 83 #[W,(I 30)] m λY Z=>StA 8 c Y Z λt=>LdA 8 c t λa0=>R a0 t) (Bd P 93 #[(0,(I 2)),(2,f)] m λa1=>StA 8 c a1 m λu=>LdA 8 c u λa2=>R a2 u)) (λJ19=>Fo 7 k λa3=>Ld a3 g λa4=>Up .not a4 λa5=>Vif a5 (KS [e,c,f]<|J19 (.bool true) g) (Fo 0 k λa6=>Fo 0 a6 λa7=>Ld a7 g λa8=>Bv .neq a8 (I 1) (KS [e,c,f]<|J19 (.bool true) g) (Bp .lss f (I 0) λa9=>KS [e,c,f]<|J19 a9 g)))
theorem Tz81 (h:Vz81 prog a0 a1 w R):Cl prog 81 #[a0,a1] w R:=
 tz 32 [(.cell 4 93)] (s z (s z (s z (s (j [27] [3,4,6] z (i (s z z) z)) (s z z))))) [a0,a1] func81 h
def Vz82:VT1:=λP O w R=>
 New O 41 w λf Q=>New (zeroP P 165) 165 Q λc p=>Fo 0 f λS=>Ld S p λU=>Fo 1 f λW=>Ld W p λY=>Bd P 163 #[(0,U),(1,Y)] p λZ=>New (zeroP P 163) 163 p λg a0=>StA 7 g Z a0 λy=>VJoin 1 (λ_ a1 e=>Vif a1 (Bd P 165 #[] e λa2=>StA 8 c a2 e λC=>LdA 8 c C λa3=>R a3 C) (Fo 0 f λa4=>Ld a4 e λa5=>Bv .eql a5 (I 1) (VJoin 1 (λ_ a6 q=>Vif a6 (Bd P 165 #[] q λa7=>StA 8 c a7 q λD=>LdA 8 c D λa8=>R a8 D) (Fo 2 f λa9=>Ld a9 q λb0=>Fo 2 g λb1=>St b1 b0 q λt=>LdA 7 g t λb2=>Bd P 165 #[(0,b2),(1,(.bool true))] t λb3=>StA 8 c b3 t λE=>LdA 8 c E λb4=>R b4 E)) (λJ24=>Fo 1 f λb5=>Ld b5 e λb6=>Bv .neq b6 (I 0) (KS [f,c,g]<|J24 (.bool true) e) (Fo 2 f λb7=>Ld b7 e λb8=>Cl P 95 #[b8] e λb9 c0=>Up .not b9 λc1=>KS [f,c,g]<|J24 c1 c0))) (Fo 0 f λc2=>Ld c2 e λc3=>Bv .eql c3 (I 2) (LdA 7 g e λc4=>Fo 2 f λc5=>Ld c5 e λc6=>Cl P 135 #[c4,c6] e λc7 c8=>StA 8 c c7 c8 λF=>LdA 8 c F λc9=>R c9 F) (Fo 0 f λd0=>Ld d0 e λd1=>Bv .eql d1 (I 3) (Fo 2 f λd2=>Ld d2 e λd3=>Fo 3 g λd4=>St d4 d3 e λu=>LdA 7 g u λd5=>Bd P 165 #[(0,d5),(1,(.bool true))] u λd6=>StA 8 c d6 u λG=>LdA 8 c G λd7=>R d7 G) (Fo 0 f λd8=>Ld d8 e λd9=>Bv .eql d9 (I 6) (Fo 2 f λe0=>Ld e0 e λe1=>Lns e1 λe2=>Bv .neq e2 (I 4) (Bd P 165 #[] e λe3=>StA 8 c e3 e λJ=>LdA 8 c J λe4=>R e4 J) (Fo 2 f λe5=>Ld e5 e λe6=>Cl P 136 #[e6] e λe7 e8=>Fo 6 g λe9=>St e9 e7 e8 λv=>LdA 7 g v λf0=>Bd P 165 #[(0,f0),(1,(.bool true))] v λf1=>StA 8 c f1 v λL=>LdA 8 c L λf2=>R f2 L)) (VJoin 1 (λ_ f3 k=>Vif f3 (Bd P 165 #[] k λf4=>StA 8 c f4 k λM=>LdA 8 c M λf5=>R f5 M) (LdA 7 g k λf6=>Bd P 165 #[(0,f6),(1,(.bool true))] k λf7=>StA 8 c f7 k λN=>LdA 8 c N λf8=>R f8 N)) (λJ71=>Fo 2 f λf9=>Ld f9 e λg0=>Bv .neq g0 (.string ⟨#[]⟩) (KS [c,g]<|J71 (.bool true) e) (Fo 0 f λg1=>Ld g1 e λg2=>Bv .eql g2 (I 7) (Fo 1 f λg3=>Ld g3 e λg4=>Bp .neq g4 (I 0) λg5=>KS [c,g]<|J71 g5 e) (KS [c,g]<|J71 (.bool false) e))))))))) (λJ81=>LdA 3 f y λg6=>Cl P 134 #[g6] y λg7 m=>Up .not g7 λg8=>Vif g8 (KS [f,c,g]<|J81 (.bool true) m) (Fo 0 f λg9=>Ld g9 m λh0=>Bv .lss h0 (I 1) (KS [f,c,g]<|J81 (.bool true) m) (Fo 0 f λh1=>Ld h1 m λh2=>Bp .gtr h2 (I 7) λh3=>KS [f,c,g]<|J81 h3 m)))
theorem Tz82 (h:Vz82 prog a0 w R):Cl prog 82 #[a0] w R:=
 tz 86 [(.cell 2 165)] (s z (s z (s (j [21] [1,2,3] z (i (s z z) z)) (s (s z (i (s (j [34] [1,2,3] z (i (s z z) z)) (s z (s z z))) z)) (s (s z (i (s z z) z)) (s (s z (i (s z (s z z)) z)) (s (s z (i (s (s z (i (s z z) z)) (s z (s z z))) z)) (s (j [82] [2,3] z (i (s z z) z)) (s z z))))))))) [a0] func82 h
def Vz83:VT2:=λP g k w R=>
 New g 41 w λm p=>New (zeroP P 93) 93 p λe c=>Fo 1 m λq=>Ld q c λt=>Bd P 93 #[(0,(I 1)),(1,t),(7,k)] c λu=>StA 8 e u c λf=>LdA 8 e f λv=>R v f
theorem Tz83 (h:Vz83 prog a0 a1 w R):Cl prog 83 #[a0,a1] w R:=
 tz 9 [(.cell 4 93)] (s z (s z z)) [a0,a1] func83 h
def Vz84:VT3:=λP v y C w R=>
 New v 35 w λm D=>New y 41 D λf E=>New C 163 E λp F=>New (zeroP P 93) 93 F λe k=>LdA 2 m k λG=>Fo 1 f λJ=>Ld J k λL=>Cl P 85 #[G,(I 3),L] k λM g=>Vif M (LdA 3 f g λN=>Cl P 83 #[N,(I 8)] g λO Q=>StA 8 e O Q λq=>LdA 8 e q λS=>R S q) (LdA 2 m g λU=>Cl P 137 #[U] g λW c=>Bv .eql W (I 1024) (LdA 3 f c λY=>Cl P 83 #[Y,(I 5)] c λZ a0=>StA 8 e Z a0 λt=>LdA 8 e t λa1=>R a1 t) (Fo 1 f λa2=>Ld a2 c λa3=>Fo 4 p λa4=>Ld a4 c λa5=>Fo 5 p λa6=>Ld a6 c λa7=>Bd P 93 #[(0,(I 3)),(1,a3),(3,a5),(4,a7)] c λa8=>StA 8 e a8 c λu=>LdA 8 e u λa9=>R a9 u))
theorem Tz84 (h:Vz84 prog a0 a1 a2 w R):Cl prog 84 #[a0,a1,a2] w R:=
 tz 25 [(.cell 6 93)] (s z (s (s z (i (s z z) z)) (s (s z (i (s z z) z)) (s z z)))) [a0,a1,a2] func84 h
def Vz85:VT3:=λP v f g w R=>
 New v 35 w λy t=>Fo 1 y λC=>Ld C t λc=>Lnl c λk=>VLoop 1 [(I 0)] t λ_ D e p=>Bv .lss e k (Ias 8 c e λE=>LdA 8 E p λF=>New (zeroP P 93) 93 p λq G=>StA 8 q F G λm=>VJoin 1 (λ_ J u=>Vif J (R (.bool true) u) (Bp .add e (I 1) λL=>KS [f,g,c,k]<|D L u)) (λJ13=>Fo 0 q λM=>Ld M m λN=>Bp .eql N f λO=>Vif O (Fo 1 q λQ=>Ld Q m λS=>Bp .eql S g λU=>KS [f,g,c,k,e]<|J13 U m) (KS [f,g,c,k,e]<|J13 (.bool false) m))) (R (.bool false) p)
theorem Tz85 (h:Vz85 prog a0 a1 a2 w R):Cl prog 85 #[a0,a1,a2] w R:=
 tz 27 [(.tmp 6)] (s z (s (s z (b (l [12] [1,2,10,11] (s z (s (i z z) (s (b (s z (j [25] [1,2,10,11,12] z (i (s z z) z)))) z)))))) (s z z))) [a0,a1,a2] func85 h
def Vz86:VT1:=λP k w R=>
 New k 98 w λc f=>VJoin 1 (λ_ m e=>Vif m (Fo 2 c λp=>Ld p e λq=>R q e) (VJoin 1 (λ_ t g=>Vif t (R (.string ⟨#[]⟩) g) (Fo 3 c λu=>Ld u g λv=>Ci .u8 v λy=>Bs P 79 1 #[(0,y)] g λC D=>Cw P 79 9 C D λE F=>R E F)) (λJ11=>Fo 3 c λG=>Ld G e λJ=>Bv .lss J (I 1) (KS [c]<|J11 (.bool true) e) (Fo 3 c λL=>Ld L e λM=>Bp .gtr M (I 255) λN=>KS [c]<|J11 N e)))) (λJ18=>Fo 0 c λO=>Ld O f λQ=>Bp .neq Q (I 68) λS=>Vif S (Fo 0 c λU=>Ld U f λW=>Bp .neq W (I 69) λY=>KS [c]<|J18 Y f) (KS [c]<|J18 (.bool false) f))
theorem Tz86 (h:Vz86 prog a0 w R):Cl prog 86 #[a0] w R:=
 tz 26 [(.tmp 2)] (s z (s (j [10] [1] z (i (s z z) z)) (s (j [20] [1] z (i (s z z) z)) (s z z)))) [a0] func86 h
def Vz87:VT4:=λP f g c e w R=>
 Bv .eql f (I 1) (Cl P 138 #[g,c,e] w λk m=>R k m) (Bv .eql f (I 2) (Cl P 139 #[c,e,(I 4096)] w λp q=>R p q) (Cl P 140 #[c,e] w λt u=>R t u))
theorem Tz87 (h:Vz87 prog a0 a1 a2 a3 w R):Cl prog 87 #[a0,a1,a2,a3] w R:=
 tz 23 [(.tmp 8)] (s z (s (s z (i (s z z) z)) (s (s z (i (s z z) z)) (s z z)))) [a0,a1,a2,a3] func87 h
def Vz88:VT1:=λP f w R=>
 VJoin 1 (λ_ c p=>Bp .rem c (I 10) λq=>Bp .rem c (I 10) λt=>Bp .add t (I 1) λu=>Sst (.string ⟨#[48,49,50,51,52,53,54,55,56,57]⟩) (some q) (some u) λv=>VLoop 2 [c,v] p λ_ y g k m=>Bp .geq g (I 10) λC=>Vif C (Bp .quo g (I 10) λe=>Bp .rem e (I 10) λD=>Bp .rem e (I 10) λE=>Bp .add E (I 1) λF=>Sst (.string ⟨#[48,49,50,51,52,53,54,55,56,57]⟩) (some D) (some F) λG=>Bp .add G k λJ=>KS []<|y e J m) (R k m)) (λJ16=>Bp .lss f (I 0) λL=>Vif L (KS []<|J16 (I 0) w) (KS []<|J16 f w))
theorem Tz88 (h:Vz88 prog a0 w R):Cl prog 88 #[a0] w R:=
 tz 25 [(.tmp 2)] (s z (j [0] [] (s z (i z z)) (s z (s (b (l [0,3] [] (s (s z (i z z)) (b (s z z))))) (s z z))))) [a0] func88 h
def Vz89:VT3:=λP F G p w R=>
 New F 38 w λe J=>New G 102 J λf L=>New (zeroP P 38) 38 L λg C=>Fo 9 e λM=>Ld M C λk=>Lnl k λq=>VLoop 2 [(.slice none 0 0),(I 0)] C λ_ u t m v=>Bv .lss m q (Ias 5 k m λN=>LdA 5 N v λO=>New (zeroP P 102) 102 v λy Q=>StA 5 y O Q λc=>Fo 0 y λS=>Ld S c λU=>Fo 0 f λW=>Ld W c λY=>Bv .neq U Y (LdA 5 y c λZ=>Bs P 36 1 #[(0,Z)] c λa0 a1=>Ap P #[36,36] 36 #[t,a0] a1 λa2 a3=>Bp .add m (I 1) λa4=>KS [p,e,f,g,k,q]<|u a2 a4 a3) (Up .not p λa5=>Vif a5 (LdA 5 f c λa6=>Bs P 36 1 #[(0,a6)] c λa7 a8=>Ap P #[36,36] 36 #[t,a7] a8 λa9 b0=>Bp .add m (I 1) λb1=>KS [p,e,f,g,k,q]<|u a9 b1 b0) (Bp .add m (I 1) λb2=>KS [p,e,f,g,k,q]<|u t b2 c))) (Fo 9 e λb3=>St b3 t v λD=>LdA 12 e D λb4=>StA 12 g b4 D λE=>LdA 12 g E λb5=>R b5 E)
theorem Tz89 (h:Vz89 prog a0 a1 a2 w R):Cl prog 89 #[a0,a1,a2] w R:=
 tz 36 [(.cell 6 38)] (s z (s z (s (s z (b (l [7,13] [2,3,4,6,11,12] (s z (s (i z z) (s (b (s z (s z (i z (s z (i z z)))))) z)))))) (s z (s z z))))) [a0,a1,a2] func89 h
def Vz90:VT3:=λP C D E w R=>
 New C 38 w λf F=>New D 102 F λc G=>New (zeroP P 38) 38 G λg p=>Fo 4 c λJ=>Ld J p λL=>Bp .add L E λM=>Fo 4 c λN=>St N M p λO=>VLoop 1 [(I 0)] O λ_ Q q e=>Bp .lss q (I 5) λS=>Vif S (Fo 3 c λU=>Ld U e λW=>Lns W λY=>Fo 4 c λZ=>Ld Z e λa0=>Fo 0 f λa1=>Fo 6 a1 λa2=>Ld a2 e λa3=>Bmin P #[3,3,3] 3 #[Y,a0,a3] e λm=>Bv .eql m (I 0) (LdA 12 f e λa4=>LdA 5 c e λa5=>Cl P 89 #[a4,a5,(.bool false)] e λa6 a7=>StA 12 g a6 a7 λt=>LdA 12 g t λa8=>R a8 t) (Dr e λk=>LdA 12 f k λa9=>Fo 0 c λb0=>Ld b0 k λb1=>Fo 3 c λb2=>Ld b2 k λb3=>Sst b3 none (some m) λb4=>Bd P 98 #[(0,(I 66)),(1,b1),(2,b4)] k λb5=>Cl P 43 #[a9,b5] k λb6 b7=>StA 12 f b6 b7 λu=>Fo 3 c λb8=>Ld b8 u λb9=>Sst b9 (some m) none λc0=>Fo 3 c λc1=>St c1 c0 u λv=>Fo 4 c λc2=>Ld c2 v λc3=>Bp .sub c3 m λc4=>Fo 4 c λc5=>St c5 c4 v λc6=>Bp .add q (I 1) λc7=>KS [f,c,g]<|Q c7 c6)) (LdA 12 f e λc8=>LdA 5 c e λc9=>Cl P 89 #[c8,c9,(.bool false)] e λd0 d1=>StA 12 g d0 d1 λy=>LdA 12 g y λd2=>R d2 y)
theorem Tz90 (h:Vz90 prog a0 a1 a2 w R):Cl prog 90 #[a0,a1,a2] w R:=
 tz 49 [(.cell 6 38)] (s z (s z (s (s z (b (l [13] [3,4,6] (s z (s (i z z) (s (b (s z (s (s z (i z z)) (s (r (.staged [0,0,2,0,8,0,56,126,255,511])) (s z z))))) z)))))) (s z z)))) [a0,a1,a2] func90 h
def Vz91:VT3:=λP f g k w R=>
 Cl P 141 #[f,g] w λc e=>Bn P 134 false c (.pointer none) λm=>Vif m (R (I 0) e) (Nc c<|LdA 3 c e λp=>Inv P (do let d <-Deferred.ofValue k #[p];invoke d.target d.args) e λq t=>R q t)
theorem Tz91 (h:Vz91 prog a0 a1 a2 w R):Cl prog 91 #[a0,a1,a2] w R:=
 tz 18 [(.tmp 6)] (s z (s z (s (s z (i (s z z) z)) (s z z)))) [a0,a1,a2] func91 h
def Vz92:VT1:=λP e w R=>
 New e 134 w λf c=>Fo 1 f λg=>Ld g c λk=>R k c
theorem Tz92 (h:Vz92 prog a0 w R):Cl prog 92 #[a0] w R:=
 tz 5 [(.tmp 2)] (s z (s z z)) [a0] func92 h
def Vz93:VT2:=λP v f w R=>
 Cl P 142 #[v] w λc y=>Lnl c λg=>VLoop 2 [(.slice none 0 0),(I 0)] y λ_ t k e m=>Bv .lss e g (Ias 5 c e λC=>LdA 5 C m λD=>New (zeroP P 178) 178 m λp E=>StA 5 p D E λu=>LdA 5 p u λF=>Inv P (do let d <-Deferred.ofValue f #[F];invoke d.target d.args) u λG q=>Vif G (Fo 4 p λJ=>Ld J q λL=>Bs P 66 1 #[(0,L)] q λM N=>Ap P #[66,66] 66 #[k,M] N λO Q=>Bp .add e (I 1) λS=>KS [f,c,g]<|t O S Q) (Bp .add e (I 1) λU=>KS [f,c,g]<|t k U q)) (R k m)
theorem Tz93 (h:Vz93 prog a0 a1 w R):Cl prog 93 #[a0,a1] w R:=
 tz 25 [(.tmp 4)] (s z (s z (s (s z (b (l [5,11] [1,9,10] (s z (s (i z z) (s (b (s z (s z (i z z)))) z)))))) (s z z)))) [a0,a1] func93 h
def Vz94:VT2:=λP e f w R=>
 New e 178 w λg c=>Fo 0 g λk=>Fo 2 k λm=>Ld m c λp=>Ld f c λq=>Bp .eql p q λt=>R t c
theorem Tz94 (h:Vz94 prog a0 a1 w R):Cl prog 94 #[a0,a1] w R:=
 tz 9 [(.tmp 3)] (s z (s z z)) [a0,a1] func94 h
def Vz95:VT1:=λP q w R=>
 Cl P 143 #[q] w λc t=>Lnl c λg=>VLoop 1 [(I 0)] t λ_ u f e=>Bv .lss f g (Ias 2 c f λv=>LdA 2 v e λy=>New (zeroP P 222) 222 e λk C=>StA 2 k y C λm=>Fo 0 k λD=>Ld D m λE=>Cl P 144 #[E] m λF p=>Up .not F λG=>Vif G (R (.bool false) p) (Bp .add f (I 1) λJ=>KS [c,c,g]<|u J p)) (Lnl c λL=>Bp .gtr L (I 0) λM=>Vif M (Lnl c λN=>Bp .leq N (I 32) λO=>R O e) (R (.bool false) e))
theorem Tz95 (h:Vz95 prog a0 w R):Cl prog 95 #[a0] w R:=
 tz 27 [(.tmp 2)] (s z (s z (s (s z (b (l [10] [3,8,9] (s z (s (i z z) (s (b (s z (s z (i (s z z) z)))) z)))))) (s z z)))) [a0] func95 h
def Vz96:VT1:=λP c w R=>
 Bn P 224 false c (.pointer none) λe=>Vif e (R (I 0) w) (Nc c<|Fo 1 c λf=>Ld f w λg=>Lnl g λk=>R k w)
theorem Tz96 (h:Vz96 prog a0 w R):Cl prog 96 #[a0] w R:=
 tz 10 [(.tmp 2)] (s z (s (s z (i (s z z) z)) (s z z))) [a0] func96 h
def Vz99:VT2:=λP c f w R=>
 Cl P 102 #[c,f] w λk g=>Up .not k λm=>Vif m (R (I 0) g) (Dr g λe=>Nc c<|Fo 2 c λp=>Ld p e λq=>Ias 1 q f λt=>Ld t e λu=>Nc c<|Fo 3 c λv=>Ld v e λy=>Ias 1 y f λC=>Ld C e λD=>Bp .sub u D λE=>R E e)
theorem Tz99 (h:Vz99 prog a0 a1 w R):Cl prog 99 #[a0,a1] w R:=
 tz 24 [(.tmp 4)] (s z (s (s z (i (s z z) z)) (s (r (.staged [0,1,3,7,0,31,63,0,128,384,896,0,3968,8064,16383,32767])) z))) [a0,a1] func99 h
def Vz100:VT2:=λP c e w R=>
 Cl P 142 #[c] w λf g=>Cl P 146 #[f,e] g λk m=>R k m
theorem Tz100 (h:Vz100 prog a0 a1 w R):Cl prog 100 #[a0,a1] w R:=
 tz 9 [(.tmp 4)] (s z (s z z)) [a0,a1] func100 h
def Vz101:VT2:=λP e f w R=>
 New e 178 w λg c=>Fo 4 g λk=>Ld k c λm=>Ld f c λp=>Bp .eql m p λq=>R q c
theorem Tz101 (h:Vz101 prog a0 a1 w R):Cl prog 101 #[a0,a1] w R:=
 tz 8 [(.tmp 3)] (s z (s z z)) [a0,a1] func101 h
def Vz102:VT2:=λP c e w R=>
 Bn P 137 true c (.pointer none) λf=>Vif f (Bv .geq e (I 0) (Nc c<|Fo 2 c λg=>Ld g w λk=>Lnl k λm=>Bp .lss e m λp=>R p w) (R (.bool false) w)) (R (.bool false) w)
theorem Tz102 (h:Vz102 prog a0 a1 w R):Cl prog 102 #[a0,a1] w R:=
 tz 20 [(.tmp 4)] (s z (s z z)) [a0,a1] func102 h
def Vz104:VT2:=λP c e w R=>
 VJoin 1 (λ_ g f=>Vif g (R (.pointer none) f) (Nc c<|Fo 0 c λk=>Ld k f λm=>Ias 1 m e λp=>Ld p f λq=>R q f)) (λJ6=>Bn P 142 false c (.pointer none) λt=>Vif t (KS [c,e]<|J6 (.bool true) w) (Bv .lss e (I 0) (KS [c,e]<|J6 (.bool true) w) (Nc c<|Fo 0 c λu=>Ld u w λv=>Lnl v λy=>Bp .geq e y λC=>KS [c,e]<|J6 C w)))
theorem Tz104 (h:Vz104 prog a0 a1 w R):Cl prog 104 #[a0,a1] w R:=
 tz 27 [(.tmp 4)] (s z (s (j [19] [0,1] z (i (s z z) z)) (s z z))) [a0,a1] func104 h
def Vz105:VT3:=λP e f p w R=>
 Nc e<|Fo 0 e λq=>Ld q w λt=>Ias 1 t f λu=>Ld u w λc=>Nc c<|Fo 0 c λv=>Ld v w λy=>Cl P 147 #[y,p] w λM g=>Nc c<|Fo 0 c λC=>Ld C g λD=>Cl P 96 #[D] g λE k=>Bv .eql E (I 0) (Nc c<|Fo 2 c λF=>St F (I 0) k λm=>Nc e<|Fo 1 e λG=>Ld G m λJ=>Cl P 147 #[J,f] m λN L=>R (.tuple #[]) L) (R (.tuple #[]) k)
theorem Tz105 (h:Vz105 prog a0 a1 a2 w R):Cl prog 105 #[a0,a1,a2] w R:=
 tz 35 [] (s z (s z (s z (i (s z z) z)))) [a0,a1,a2] func105 h
def Vz106:VT1:=λP c w R=>
 Bn P 228 false c (.pointer none) λt=>Vif t (R (I 0) w) (Nc c<|Fo 1 c λu=>Ld u w λv=>Lns v λy=>Nc c<|Fo 0 c λC=>Ld C w λD=>Cl P 148 #[D] w λE m=>Vif E (Nc c<|Fo 1 c λF=>St F (.string ⟨#[]⟩) m λG=>R y G) (Dr m λg=>Nc c<|Fo 0 c λJ=>Ld J g λL=>Nc c<|Fo 1 c λM=>Ld M g λN=>Cl P 149 #[L,N] g λe p=>Nc c<|Fo 1 c λO=>Ld O p λQ=>Sst Q (some e) none λS=>Nc c<|Fo 1 c λU=>St U S p λq=>Nc c<|Fo 3 c λW=>Ld W q λY=>Bp .add Y e λZ=>Nc c<|Fo 3 c λa0=>St a0 Z q λf=>VJoin 1 (λ_ a1 k=>Vif a1 (Nc c<|Fo 0 c λa2=>Ld a2 k λa3=>Cl P 150 #[a3] k λb0 a4=>R e a4) (R e k)) (λJ28=>Nc c<|Fo 2 c λa5=>Ld a5 f λa6=>Vif a6 (Nc c<|Fo 1 c λa7=>Ld a7 f λa8=>Bp .eql a8 (.string ⟨#[]⟩) λa9=>KS [c,e]<|J28 a9 f) (KS [c,e]<|J28 (.bool false) f))))
theorem Tz106 (h:Vz106 prog a0 w R):Cl prog 106 #[a0] w R:=
 tz 64 [(.tmp 2)] (s z (s (s z (i (s z z) z)) (s z (s (s z (i (s z (s z z)) z)) (s (r (.staged [0,1,3,7,0,16,48,112,255,511])) (s z (s z (s (j [57] [0,4] z (i z z)) (s z z))))))))) [a0] func106 h
def Vz107:VT1:=λP c w R=>
 Bn P 228 false c (.pointer none) λe=>Vif e (R (I 0) w) (Nc c<|Fo 1 c λf=>Ld f w λg=>Lns g λk=>R k w)
theorem Tz107 (h:Vz107 prog a0 w R):Cl prog 107 #[a0] w R:=
 tz 10 [(.tmp 2)] (s z (s (s z (i (s z z) z)) (s z z))) [a0] func107 h
def Vz108:VT1:=λP c w R=>
 Cl P 151 #[c] w λe f=>Bv .eql e (I 0) (R (.tuple #[(.string ⟨#[]⟩),(.bool false)]) f) (Nc c<|Fo 2 c λm=>Ld m f λp=>Bp .sub p e λq=>Nc c<|Fo 2 c λt=>St t q f λg=>Nc c<|Fo 3 c λu=>Ld u g λv=>Bp .add v e λy=>Nc c<|Fo 3 c λC=>St C y g λk=>Nc c<|Fo 0 c λD=>Ld D k λE=>Cl P 152 #[E,e] k λF G=>R (.tuple #[F,(.bool true)]) G)
theorem Tz108 (h:Vz108 prog a0 w R):Cl prog 108 #[a0] w R:=
 tz 31 [(.tmp 2),(.tmp 3)] (s z (s z (s (s z (i (s z z) z)) (s z (s z (s z z)))))) [a0] func108 h
def Vz109:VT2:=λP c p w R=>
 New p 192 w λq e=>LdA 4 q e λt=>Cl P 153 #[t] e λf u=>Ex f 0 λv=>Ex f 1 λJ=>New (zeroP P 41) 41 u λg y=>StA 3 g v y λk=>LdA 3 g k λC=>Cl P 154 #[C] k λm D=>Ex m 0 λE=>Ex m 1 λL=>Nc c<|Fo 3 c λF=>Cl P 155 #[F,E] D λM G=>R (.tuple #[]) G
theorem Tz109 (h:Vz109 prog a0 a1 w R):Cl prog 109 #[a0,a1] w R:=
 tz 23 [] (s z (s z (s z z))) [a0,a1] func109 h
def Vz110:VT1:=λP c w R=>
 Cl P 148 #[c] w λf e=>Vif f (Cl P 156 #[c] e λg k=>Bp .eql g (I 0) λm=>R m k) (R (.bool false) e)
theorem Tz110 (h:Vz110 prog a0 w R):Cl prog 110 #[a0] w R:=
 tz 10 [(.tmp 2)] (s z (s z z)) [a0] func110 h
def Vz111:VT1:=λP c w R=>
 Bn P 186 false c (.pointer none) λf=>Vif f (R (I 0) w) (Nc c<|Fo 1 c λg=>Ld g w λk=>Ta P k 184 240 true w λe=>Ex e 0 λm=>Ex e 1 λp=>Vif p (Inv P (invoke (.fn (.method "Err") #[]) (#[m] ++ #[])) w λq t=>R q t) (R (I 0) w))
theorem Tz111 (h:Vz111 prog a0 w R):Cl prog 111 #[a0] w R:=
 tz 18 [(.tmp 2)] (s z (s (s z (i (s z z) z)) (s (s z (s z (i (s z z) z))) (s z z)))) [a0] func111 h
def Vz112:VT2:=λP c f w R=>
 Nc c<|Fo 9 c λu=>Ld u w λv=>Cl P 157 #[v,f] w λp y=>Ex p 0 λC=>Ex p 1 λa6=>New (zeroP P 111) 111 y λg D=>StA 4 g C D λq=>Nc c<|Fo 12 c λE=>Ld E q λF=>Cl P 158 #[F,f] q λa7 G=>Dr G λk=>Nc c<|Fo 10 c λJ=>Ld J k λL=>Fo 2 g λM=>Ld M k λN=>Fo 3 g λO=>Ld O k λQ=>Cl P 159 #[L,N,Q] k λa8 t=>Nc c<|Fo 8 c λS=>Ld S t λU=>Bdel P #[76,3] 0 #[U,f] t λ_ W=>Dr W λe=>Nc c<|Fo 7 c λY=>Ld Y e λZ=>Fo 0 g λa0=>Ld a0 e λa1=>Lk P 75 Z a1 false e λm=>Nc m<|Fo 5 m λa2=>Ld a2 e λa3=>Bv .eql a3 f (Nc m<|Fo 5 m λa4=>St a4 (I 0) e λa5=>R (.tuple #[]) a5) (R (.tuple #[]) e)
theorem Tz112 (h:Vz112 prog a0 a1 w R):Cl prog 112 #[a0,a1] w R:=
 tz 52 [] (s z (s z (s (r (.staged [0,1,3,7,0,16,0,64,255])) (s z (s (r (.staged [0,1,3,7,0,16,63,127])) (s z (i z z))))))) [a0,a1] func112 h
def Vz113:VT3:=λP c k m w R=>
 Cl P 104 #[c,k] w λe f=>Bn P 142 false c (.pointer none) λq=>Vif q (R (I 7) f) (Bn P 145 false e (.pointer none) λt=>Vif t (R (I 6) f) (Cl P 160 #[c,m] f λu g=>Bv .geq u (I 0) (R (I 8) g) (Nc e<|Fo 0 e λv=>Ld v g λy=>Cl P 161 #[y,m] g λF p=>Nc c<|Fo 1 c λC=>Ld C p λD=>Cl P 161 #[D,k] p λG E=>R (I 0) E)))
theorem Tz113 (h:Vz113 prog a0 a1 a2 w R):Cl prog 113 #[a0,a1,a2] w R:=
 tz 34 [(.tmp 6)] (s z (s z (s (b (s z (i (s z z) (s z (i (s z z) (s z (i (s z z) z))))))) (s z (s z (s z z)))))) [a0,a1,a2] func113 h
def Vz116:VT1:=λP p w R=>
 New p 51 w λc m=>Fo 0 c λq=>Ld q m λt=>Cl P 162 #[t] m λu e=>Vif u (Fo 1 c λv=>Ld v e λy=>Cl P 162 #[y] e λC f=>Vif C (Fo 2 c λD=>Ld D f λE=>Cl P 65 #[E,(I 0),(I 1099511627776)] f λF g=>Vif F (Fo 3 c λG=>Ld G g λJ=>Cl P 65 #[J,(I 1),(I 1099511627776)] g λL k=>Vif L (Fo 4 c λM=>Ld M k λN=>Cl P 65 #[N,(I 1),(I 1099511627776)] k λO Q=>R O Q) (R (.bool false) k)) (R (.bool false) g)) (R (.bool false) f)) (R (.bool false) e)
theorem Tz116 (h:Vz116 prog a0 w R):Cl prog 116 #[a0] w R:=
 tz 26 [(.tmp 2)] (s z (s z z)) [a0] func116 h
def Vz117:VT2:=λP e t w R=>
 New t 51 w λf u=>Lnl e λk=>VLoop 1 [(I 0)] u λ_ v g m=>Bv .lss g k (Ias 5 e g λy=>LdA 5 y m λC=>New (zeroP P 51) 51 m λp D=>StA 5 p C D λc=>VJoin 1 (λ_ E q=>Vif E (R (.bool true) q) (Bp .add g (I 1) λF=>KS [f,e,k]<|v F q)) (λJ11=>Fo 0 p λG=>Ld G c λJ=>Fo 0 f λL=>Ld L c λM=>Bp .eql J M λN=>Vif N (KS [f,e,k,g]<|J11 (.bool true) c) (Fo 1 p λO=>Ld O c λQ=>Fo 1 f λS=>Ld S c λU=>Bp .eql Q U λW=>KS [f,e,k,g]<|J11 W c))) (R (.bool false) m)
theorem Tz117 (h:Vz117 prog a0 a1 w R):Cl prog 117 #[a0,a1] w R:=
 tz 26 [(.tmp 4)] (s z (s (s z (b (l [9] [3,7,8] (s z (s (i z z) (s (b (s z (j [24] [3,7,8,9] z (i (s z z) z)))) z)))))) (s z z))) [a0,a1] func117 h
def Vz118:VT2:=λP e g w R=>
 Lnl e λk=>VLoop 1 [(I 0)] w λ_ p c f=>Bv .lss c k (Ias 1 e c λq=>Ld q f λt=>Inv P (do let d <-Deferred.ofValue g #[t];invoke d.target d.args) f λu m=>Vif u (R c m) (Bp .add c (I 1) λv=>KS [e,g,k]<|p v m)) (R (I (-1)) f)
theorem Tz118 (h:Vz118 prog a0 a1 w R):Cl prog 118 #[a0,a1] w R:=
 tz 19 [(.tmp 4)] (s z (s (s z (b (l [8] [0,1,7] (s z (s (i z z) (s (b (s z (s z (i (s z z) z)))) z)))))) (s z z))) [a0,a1] func118 h
def Vz119:VT1:=λP c w R=>
 VJoin 1 (λ_ f e=>Vif f (R (.tuple #[(.pointer none),(I 1)]) e) (Bd P 224 #[(0,c)] e λg=>New g 224 e λk m=>R (.tuple #[k,(I 0)]) m)) (λJ4=>Bv .lss c (I 1) (KS [c]<|J4 (.bool true) w) (Bp .gtr c (I 1099511627776) λp=>KS [c]<|J4 p w))
theorem Tz119 (h:Vz119 prog a0 w R):Cl prog 119 #[a0] w R:=
 tz 13 [(.tmp 2),(.tmp 3)] (s z (s (j [9] [0] z (i (s z z) z)) (s z z))) [a0] func119 h
def Vz120:VT1:=λP c w R=>
 Be P .eql 22 (.tmp 3) (.const (.slice none 0 0)) c (.slice none 0 0) w λe=>Vif e (R (.slice none 0 0) w) (Bs P 22 0 #[] w λf g=>Ap P #[22,22] 22 #[f,c] g λk m=>R k m)
theorem Tz120 (h:Vz120 prog a0 w R):Cl prog 120 #[a0] w R:=
 tz 8 [(.tmp 2)] (s z (s (s z (i (s z z) z)) (s z z))) [a0] func120 h
def Vz121:VT1:=λP e w R=>
 New (zeroP P 41) 41 w λc m=>Bv .eql e (.string ⟨#[]⟩) (Bd P 41 #[] m λF=>StA 3 c F m λq=>LdA 3 c q λG=>R (.tuple #[G,(I 0),(I 3)]) q) (Ixs e (I 0) λJ=>Ci .i64 J λL=>Bd P 41 #[(0,L)] m λM=>New (zeroP P 41) 41 m λf N=>StA 3 f M N λt=>LdA 3 f t λO=>Cl P 163 #[O] t λQ g=>Up .not Q λS=>Vif S (Bd P 41 #[] g λU=>StA 3 c U g λu=>LdA 3 c u λW=>R (.tuple #[W,(I 0),(I 35)]) u) (Lns e λY=>Bv .lss Y (I 9) (Bd P 41 #[] g λZ=>StA 3 c Z g λv=>LdA 3 c v λa0=>R (.tuple #[a0,(I 0),(I 3)]) v) (Sst e (some (I 1)) none λa1=>Cl P 164 #[a1] g λa2 a3=>Fo 1 f λa4=>St a4 a2 a3 λa5=>Sst e (some (I 5)) none λa6=>Cl P 164 #[a6] a5 λp k=>Bv .gtr p (I 65536) (Bd P 41 #[] k λa7=>StA 3 c a7 k λy=>LdA 3 c y λa8=>R (.tuple #[a8,(I 0),(I 2)]) y) (Lns e λa9=>Bp .sub a9 (I 9) λb0=>Bp .lss b0 p λb1=>Vif b1 (Bd P 41 #[] k λb2=>StA 3 c b2 k λC=>LdA 3 c C λb3=>R (.tuple #[b3,(I 0),(I 3)]) C) (Bp .add (I 9) p λb4=>Sst e (some (I 9)) (some b4) λb5=>Fo 2 f λb6=>St b6 b5 k λD=>LdA 3 f D λb7=>Bp .add (I 9) p λb8=>StA 3 c b7 D λE=>LdA 3 c E λb9=>R (.tuple #[b9,b8,(I 0)]) E)))))
theorem Tz121 (h:Vz121 prog a0 w R):Cl prog 121 #[a0] w R:=
 tz 48 [(.cell 2 41),(.tmp 3),(.tmp 4)] (s z (s (s z (i (s z z) z)) (s z (s (s z (i (s z z) z)) (s (s z (i (s z z) z)) (s z (s z (s (b (s z (i (s z z) (s z (i (s z z) z))))) (s z (s z z)))))))))) [a0] func121 h
def Vz122:VT2:=λP c e w R=>
 New (zeroP P 41) 41 w λf m=>Nc c<|Fo 2 c λp=>St p e m λq=>Nc c<|Fo 1 c λt=>St t (.string ⟨#[]⟩) q λg=>Bd P 41 #[] g λu=>StA 3 f u g λk=>LdA 3 f k λv=>R (.tuple #[v,(.bool false),e]) k
theorem Tz122 (h:Vz122 prog a0 a1 w R):Cl prog 122 #[a0,a1] w R:=
 tz 16 [(.cell 4 41),(.tmp 5),(.tmp 6)] (s z (s z (s z (s z z)))) [a0,a1] func122 h
def Vz123:VT1:=λP c w R=>
 Nc c<|Fo 1 c λg=>Ld g w λk=>Lns k λm=>Bv .lss m (I 9) (R (.bool false) w) (Nc c<|Fo 1 c λp=>Ld p w λq=>Sst q (some (I 5)) (some (I 9)) λt=>Cl P 165 #[t] w λe f=>Ex e 0 λu=>Ex e 1 λE=>Bp .add (I 9) u λv=>Nc c<|Fo 0 c λy=>Ld y f λC=>Bp .gtr v C λD=>R D f)
theorem Tz123 (h:Vz123 prog a0 w R):Cl prog 123 #[a0] w R:=
 tz 27 [(.tmp 2)] (s z (s (s z (i (s z z) z)) (s z (s z z)))) [a0] func123 h
def Vz125:VT2:=λP e J w R=>
 New J 41 w λf L=>New (zeroP P 158) 158 L λc t=>LdA 3 f t λM=>Cl P 126 #[M] t λu N=>Ex u 0 λO=>Ex u 1 λQ=>New (zeroP P 206) 206 N λg S=>StA 7 g O S λk=>VJoin 1 (λ_ U m=>Vif U (Fo 1 f λW=>Ld W m λY=>Cl P 127 #[Y,(I 30)] m λZ a0=>StA 8 c Z a0 λv=>LdA 8 c v λa1=>R a1 v) (Dr m λp=>Nc e<|Fo 0 e λa2=>Ld a2 p λa3=>Fo 2 g λa4=>Ld a4 p λa5=>Cl P 167 #[a3,a5] p λy q=>Ex y 0 λC=>Ex y 1 λD=>Bv .neq D (I 0) (Fo 1 f λa6=>Ld a6 q λa7=>Cl P 127 #[a7,D] q λa8 a9=>StA 8 c a8 a9 λE=>LdA 8 c E λb0=>R b0 E) (Nc e<|Fo 1 e λb1=>St b1 C q λF=>Bd P 158 #[(0,(I 2)),(2,C)] F λb2=>StA 8 c b2 F λG=>LdA 8 c G λb3=>R b3 G))) (λJ30=>Bv .neq Q (I 0) (KS [e,f,c,g]<|J30 (.bool true) k) (Fo 0 g λb4=>Ld b4 k λb5=>Bp .neq b5 (I 1) λb6=>KS [e,f,c,g]<|J30 b6 k))
theorem Tz125 (h:Vz125 prog a0 a1 w R):Cl prog 125 #[a0,a1] w R:=
 tz 45 [(.cell 4 158)] (s z (s z (s (j [19] [0,3,4,5] z (i (s z z) z)) (s (r (.staged [0,1,3,7,0,16,63,127,255,255,511,2047])) (s (s z (i (s z z) z)) (s z (s z z))))))) [a0,a1] func125 h
def Vz126:VT1:=λP M w R=>
 New M 41 w λf N=>New (zeroP P 206) 206 N λe t=>Fo 0 f λO=>Ld O t λQ=>Fo 1 f λS=>Ld S t λU=>Bd P 206 #[(0,Q),(1,U)] t λW=>New (zeroP P 206) 206 t λc Y=>StA 7 c W Y λv=>LdA 3 f v λZ=>Cl P 168 #[Z] v λp k=>VJoin 1 (λ_ a0 u=>Up .not a0 λa1=>Vif a1 (Bd P 206 #[] u λa2=>StA 7 e a2 u λy=>LdA 7 e y λa3=>R (.tuple #[a3,(I 35)]) y) (LdA 7 c u λa4=>StA 7 e a4 u λC=>LdA 7 e C λa5=>R (.tuple #[a5,(I 0)]) C)) (λJ17=>Fo 0 f λa6=>Ld a6 k λm=>Bv .eql m (I 1) (Fo 2 f λa7=>Ld a7 k λa8=>Fo 2 c λa9=>St a9 a8 k λq=>Vif p (Fo 1 f λb0=>Ld b0 q λb1=>Bv .eql b1 (I 0) (Fo 2 f λb2=>Ld b2 q λb3=>Cl P 162 #[b3] q λb4 b5=>KS [e,c]<|J17 b4 b5) (KS [e,c]<|J17 (.bool false) q)) (KS [e,c]<|J17 (.bool false) q)) (Bv .eql m (I 2) (Fo 2 f λb6=>Ld b6 k λb7=>Cl P 169 #[b7] k λD b8=>Ex D 0 λE=>Ex D 1 λb9=>Fo 4 c λc0=>St c0 E b8 λc1=>Fo 5 c λc2=>St c2 b9 c1 λF=>Vif p (Bp .neq E (I 0) λc3=>KS [e,c]<|J17 c3 F) (KS [e,c]<|J17 (.bool false) F)) (Bp .eql m (I 3) λc4=>Vif c4 (Fo 2 f λc5=>Ld c5 k λc6=>Fo 3 c λc7=>St c7 c6 k λc8=>KS [e,c]<|J17 p c8) (VJoin 1 (λ_ c9 g=>Vif c9 (Vif p (Fo 2 f λd0=>Ld d0 g λd1=>Bp .eql d1 (.string ⟨#[]⟩) λd2=>KS [e,c]<|J17 d2 g) (KS [e,c]<|J17 (.bool false) g)) (Bp .eql m (I 6) λd3=>Vif d3 (Fo 2 f λd4=>Ld d4 g λd5=>Cl P 165 #[d5] g λG d6=>Ex G 0 λd7=>Ex G 1 λd8=>Fo 6 c λd9=>St d9 d7 d6 λJ=>Vif p (Bp .eql d8 (I 0) λe0=>KS [e,c]<|J17 e0 J) (KS [e,c]<|J17 (.bool false) J)) (Bp .eql m (I 7) λe1=>Vif e1 (Vif p (Fo 1 f λe2=>Ld e2 g λe3=>Bv .eql e3 (I 0) (Fo 2 f λe4=>Ld e4 g λe5=>Bp .eql e5 (.string ⟨#[]⟩) λe6=>KS [e,c]<|J17 e6 g) (KS [e,c]<|J17 (.bool false) g)) (KS [e,c]<|J17 (.bool false) g)) (KS [e,c]<|J17 (.bool false) g)))) (λJ62=>Bp .eql m (I 4) λL=>Vif L (KS [f,e,c,p,m]<|J62 L k) (Bp .eql m (I 5) λe7=>KS [f,e,c,p,m]<|J62 e7 k))))))
theorem Tz126 (h:Vz126 prog a0 w R):Cl prog 126 #[a0] w R:=
 tz 98 [(.cell 2 206),(.tmp 3)] (s z (s z (s z (j [5] [2,4] (s z (b (s z (i (s z z) (s z (i (s z (s z (s z z))) (s z (i z (j [57] [1,2,4,5,18] (s z (i z z)) (i z (s z (i (s z (s z z)) (s z (i z z)))))))))))))) (s (s z (i (s z z) z)) (s z z)))))) [a0] func126 h
def Vz127:VT2:=λP g k w R=>
 New (zeroP P 158) 158 w λc e=>Bd P 158 #[(0,(I 1)),(1,g),(7,k)] e λm=>StA 8 c m e λf=>LdA 8 c f λp=>R p f
theorem Tz127 (h:Vz127 prog a0 a1 w R):Cl prog 127 #[a0,a1] w R:=
 tz 8 [(.cell 4 158)] (s z (s z z)) [a0,a1] func127 h
def Vz128:VT2:=λP k C w R=>
 New C 206 w λe D=>New (zeroP P 158) 158 D λc f=>Fo 0 e λE=>Ld E f λF=>Bv .eql F (I 1) (Fo 1 e λG=>Ld G f λJ=>Cl P 127 #[J,(I 8)] f λL M=>StA 8 c L M λp=>LdA 8 c p λN=>R N p) (Fo 0 e λO=>Ld O f λQ=>Bv .eql Q (I 2) (LdA 7 e f λS=>Cl P 170 #[k,S] f λU W=>StA 8 c U W λq=>LdA 8 c q λY=>R Y q) (Fo 0 e λZ=>Ld Z f λa0=>Bv .eql a0 (I 7) (Bd P 158 #[(0,(I 8))] f λa1=>StA 8 c a1 f λt=>LdA 8 c t λa2=>R a2 t) (Dr f λg=>Nc k<|Fo 2 k λa3=>Ld a3 g λa4=>Fo 1 e λa5=>Ld a5 g λa6=>Lk P 199 a4 a6 false g λa7=>Bv .eql a7 (I 0) (Fo 1 e λa8=>Ld a8 g λa9=>Cl P 127 #[a9,(I 31)] g λb0 b1=>StA 8 c b0 b1 λu=>LdA 8 c u λb2=>R b2 u) (LdA 7 e g λb3=>Cl P 171 #[k,b3] g λb4 m=>Vif b4 (Fo 1 e λb5=>Ld b5 m λb6=>Cl P 127 #[b6,(I 32)] m λb7 b8=>StA 8 c b7 b8 λv=>LdA 8 c v λb9=>R b9 v) (LdA 7 e m λc0=>Cl P 172 #[k,c0] m λc1 c2=>StA 8 c c1 c2 λy=>LdA 8 c y λc3=>R c3 y)))))
theorem Tz128 (h:Vz128 prog a0 a1 w R):Cl prog 128 #[a0,a1] w R:=
 tz 46 [(.cell 4 158)] (s z (s (b (s z (i (s z z) (s z (i (s z z) (s z (i (s z z) (s (r (.staged [0,1,3,7,0,16,63,127,255])) (i (s z z) (s z (i (s z z) z))))))))))) (s z z))) [a0,a1] func128 h
def Vz129:VT2:=λP c p w R=>
 Dr w λe=>Nc c<|Fo 11 c λM=>Ld M e λN=>Cl P 63 #[N] e λO f=>Nc c<|Fo 9 c λG=>Ld G f λJ=>Rk (λw K=>Ld G w λQ=>K Q) J e<|Cl P 50 #[J,p] f λq t=>Lnl q λu=>Nc c<|Fo 10 c λD=>Ld D t λE=>Rk (λw K=>Ld D w λS=>K S) E f<|Rk (λw K=>Ld D w λU=>K U) E e<|Cl P 49 #[E,p] t λW v=>Rk (λw K=>Lnl q λg=>K g) u v<|Nc c<|Fo 10 c λy=>Ld y v λC=>Rk (λw K=>Ld y w λY=>K Y) C t<|Rk (λw K=>Ld y w λZ=>K Z) C f<|Rk (λw K=>Ld y w λa0=>K a0) C e<|Cl P 174 #[C,p] v λa1 F=>Rk (λw K=>Lnl q λg=>K g) u F<|Nc c<|Fo 11 c λk=>Ld k F λm=>Rk (λw K=>Ld k w λa2=>K a2) m v<|Rk (λw K=>Ld k w λa3=>K a3) m t<|Rk (λw K=>Ld k w λa4=>K a4) m f<|Rk (λw K=>Ld k w λa5=>K a5) m e<|Cl P 99 #[m,p] F λa6 L=>Rk (λw K=>Lnl q λg=>K g) u L<|Bs P 66 5 #[(0,O),(1,u),(2,W),(3,a1),(4,a6)] L λa7 a8=>Cl P 173 #[a7] a8 λa9 b0=>R a9 b0
theorem Tz129 (h:Vz129 prog a0 a1 w R):Cl prog 129 #[a0,a1] w R:=
 tz 37 [(.tmp 4)] (s z (s (r (.staged [0,1,3,7,15,0,32,96,224,0,1023,2047,0,4096,12288,28672,0,129023,0,262144,786432,1835008,0,8386559,0,16777216,50331648,117440512,0,536868863,1073741823,2147483647,4294967295])) z)) [a0,a1] func129 h
def Vz130:VT1:=λP c w R=>
 Bn P 201 false c (.pointer none) λe=>Vif e (R (I (-1)) w) (Nc c<|Fo 1 c λf=>Ld f w λg=>R g w)
theorem Tz130 (h:Vz130 prog a0 w R):Cl prog 130 #[a0] w R:=
 tz 9 [(.tmp 2)] (s z (s (s z (i (s z z) z)) (s z z))) [a0] func130 h
def Vz131:VT3:=λP c f N w R=>
 New N 158 w λe u=>Nc f<|Fo 2 f λO=>Ld O u λQ=>Cl P 130 #[Q] u λv S=>Dr S λg=>Fo 3 e λU=>Ld U g λW=>Fo 4 e λY=>Ld Y g λZ=>Nc c<|Fo 0 c λa0=>Fo 1 a0 λa1=>Ld a1 g λa2=>Nc c<|Fo 0 c λa3=>Fo 2 a3 λa4=>Ld a4 g λa5=>Cl P 175 #[W,Z,a2,a5] g λy a6=>Ex y 0 λC=>Ex y 1 λe1=>Cl P 176 #[c,v,C] a6 λD p=>Bv .neq D (I 0) (Fo 1 e λa7=>Ld a7 p λa8=>Cl P 77 #[f,a8,D] p λe2 a9=>R (.tuple #[]) a9) (Dr p λk=>Fo 3 e λb0=>Ld b0 k λb1=>Fo 4 e λb2=>Ld b2 k λb3=>Nc c<|Fo 0 c λb4=>Fo 1 b4 λb5=>Ld b5 k λb6=>Nc c<|Fo 0 c λb7=>Fo 2 b7 λb8=>Ld b8 k λb9=>Cl P 177 #[b1,b3,b6,b9] k λE c0=>Ex E 0 λq=>Ex E 1 λe3=>Cl P 178 #[q] c0 λF G=>Ex F 0 λc1=>Ex F 1 λe4=>Nc c<|Fo 0 c λc2=>Fo 6 c2 λc3=>Ld c3 G λc4=>Cl P 179 #[q,c4] G λJ c5=>Ex J 0 λc6=>Ex J 1 λe5=>Dr c5 λm=>Nc c<|Fo 9 c λc7=>Ld c7 m λc8=>Nc f<|Fo 0 f λc9=>Ld c9 m λd0=>Fo 1 e λd1=>Ld d1 m λd2=>Bd P 111 #[(0,d0),(1,d2),(2,v),(3,C)] m λd3=>Cl P 180 #[c8,d3] m λL t=>Ex L 0 λM=>Ex L 1 λe6=>Nc c<|Fo 8 c λd4=>Ld d4 t λd5=>Bd P 119 #[(0,q),(1,c1),(2,c6)] t λd6=>New d6 119 t λd7 d8=>Mu P 76 d5 M d7 d8 λd9=>Cl P 60 #[c,M] d9 λe7 e0=>R (.tuple #[]) e0)
theorem Tz131 (h:Vz131 prog a0 a1 a2 w R):Cl prog 131 #[a0,a1,a2] w R:=
 tz 115 [] (s z (s z (s (r (.staged [0,1,0,4,0,16,48,112,240,0,512,1536,3584,7680,16383,32767,65535,65535,131071,524287])) (s (s z (s z (i (s z z) z))) (s (r (.staged [0,1,0,4,0,16,48,112,240,0,512,1536,3584,7680,16383,32767,65535,65535,131071,524287])) (s z (s z (s (r (.staged [0,1,3,7,0,16,48,112,0,256,0,0,4080,8191,16383,32767,32767,65535,262143])) (s z z))))))))) [a0,a1,a2] func131 h
def Vz132:VT3:=λP e u y w R=>
 New y 158 w λk C=>Dr C λm=>Nc e<|Fo 9 e λD=>Ld D m λE=>Nc u<|Fo 0 u λF=>Ld F m λG=>Fo 1 k λJ=>Ld J m λL=>Cl P 181 #[E,G,L] m λv c=>Ex v 0 λg=>Ex v 1 λM=>Bv .neq M (I 0) (R (.tuple #[]) c) (Nc e<|Fo 8 e λN=>Ld N c λO=>Lk P 76 O g false c λf=>Fo 0 k λQ=>Ld Q c λp=>Bv .eql p (I 4) (Dr c λq=>Nc f<|Fo 1 f λS=>Ld S q λU=>Fo 6 k λW=>Ld W q λY=>Cl P 182 #[U,Y] q λb2 Z=>Cl P 60 #[e,g] Z λb3 a0=>R (.tuple #[]) a0) (Bv .eql p (I 5) (Nc f<|Fo 1 f λa1=>Ld a1 c λa2=>Cl P 183 #[a2] c λb4 a3=>Cl P 60 #[e,g] a3 λb5 a4=>R (.tuple #[]) a4) (Bv .eql p (I 7) (Dr c λt=>Nc f<|Fo 2 f λa5=>Ld a5 t λa6=>Fo 5 k λa7=>Ld a7 t λa8=>Cl P 184 #[a6,a8] t λb6 a9=>Cl P 60 #[e,g] a9 λb7 b0=>R (.tuple #[]) b0) (Cl P 112 #[e,g] c λb8 b1=>R (.tuple #[]) b1))))
theorem Tz132 (h:Vz132 prog a0 a1 a2 w R):Cl prog 132 #[a0,a1,a2] w R:=
 tz 64 [] (s z (s (r (.staged [0,1,3,7,0,16,48,112,0,256,1023,2047,4095,4095,8191,32767])) (s (s z (i z z)) (s z (s (s z (b (s z (i (r (.staged [0,1,3,7,0,16,63])) (s z (i z (s z (i (r (.staged [0,1,3,7,0,16,63])) (s z z))))))))) z))))) [a0,a1,a2] func132 h
def Vz133:VT2:=λP e k w R=>
 Lnl e λm=>VLoop 1 [(I 0)] w λ_ q c f=>Bv .lss c m (Ias 5 e c λt=>LdA 5 t f λu=>New (zeroP P 51) 51 f λp v=>StA 5 p u v λg=>Fo 1 p λy=>Ld y g λC=>Bv .eql C k (R c g) (Bp .add c (I 1) λD=>KS [k,e,m]<|q D g)) (R (I (-1)) f)
theorem Tz133 (h:Vz133 prog a0 a1 w R):Cl prog 133 #[a0,a1] w R:=
 tz 20 [(.tmp 4)] (s z (s (s z (b (l [9] [1,7,8] (s z (s (i z z) (s (b (s z (s z (i (s z z) z)))) z)))))) (s z z))) [a0,a1] func133 h
def Vz134:VT1:=λP f w R=>
 New f 41 w λe c=>Fo 1 e λg=>Ld g c λk=>Bv .geq k (I 0) (Fo 1 e λm=>Ld m c λp=>Bv .leq p (I 4294967295) (Fo 2 e λq=>Ld q c λt=>Lns t λu=>Bp .leq u (I 65536) λv=>R v c) (R (.bool false) c)) (R (.bool false) c)
theorem Tz134 (h:Vz134 prog a0 w R):Cl prog 134 #[a0] w R:=
 tz 17 [(.tmp 2)] (s z (s z z)) [a0] func134 h
def Vz135:VT2:=λP D c w R=>
 New D 163 w λf E=>New (zeroP P 165) 165 E λe t=>VJoin 1 (λ_ F g=>Vif F (Fo 4 f λG=>St G (I 2) g λk=>Bv .eql c (.string ⟨#[116]⟩) (Fo 4 f λJ=>St J (I 3) k λm=>LdA 7 f m λL=>Bd P 165 #[(0,L),(1,(.bool true))] m λM=>StA 8 e M m λu=>LdA 8 e u λN=>R N u) (LdA 7 f k λO=>Bd P 165 #[(0,O),(1,(.bool true))] k λQ=>StA 8 e Q k λv=>LdA 8 e v λS=>R S v)) (VJoin 1 (λ_ U p=>Vif U (Bd P 165 #[] p λW=>StA 8 e W p λy=>LdA 8 e y λY=>R Y y) (Fo 4 f λZ=>St Z (I 1) p λa0=>Ixs c (I 1) λa1=>Ci .i64 a1 λa2=>Bp .sub a2 (I 48) λa3=>Fo 5 f λa4=>St a4 a3 a0 λq=>LdA 7 f q λa5=>Bd P 165 #[(0,a5),(1,(.bool true))] q λa6=>StA 8 e a6 q λC=>LdA 8 e C λa7=>R a7 C)) (λJ24=>Lns c λa8=>Bp .neq a8 (I 2) λa9=>Vif a9 (KS [c,f,e]<|J24 (.bool true) g) (Ixs c (I 0) λb0=>Bv .neq b0 (.int .u8 99) (KS [c,f,e]<|J24 (.bool true) g) (Ixs c (I 1) λb1=>Bv .lss b1 (.int .u8 49) (KS [c,f,e]<|J24 (.bool true) g) (Ixs c (I 1) λb2=>Bp .gtr b2 (.int .u8 57) λb3=>KS [c,f,e]<|J24 b3 g)))))) (λJ33=>Bp .eql c (.string ⟨#[120]⟩) λb4=>Vif b4 (KS [c,f,e]<|J33 (.bool true) t) (Bp .eql c (.string ⟨#[116]⟩) λb5=>KS [c,f,e]<|J33 b5 t))
theorem Tz135 (h:Vz135 prog a0 a1 w R):Cl prog 135 #[a0,a1] w R:=
 tz 44 [(.cell 4 165)] (s z (s (j [10] [1,2,4] z (i (s z (s (s z (i z z)) (s z z))) z)) (s (j [34] [1,2,4] z (i (s z z) z)) (s z (s z (s z z)))))) [a0,a1] func135 h
def Vz136:VT1:=λP c w R=>
 Dr w λe=>Ixs c (I 0) λf=>Ci .i64 f λg=>Bp .mul g (I 16777216) λk=>Ixs c (I 1) λm=>Ci .i64 m λp=>Bp .mul p (I 65536) λq=>Bp .add k q λt=>Ixs c (I 2) λu=>Ci .i64 u λv=>Bp .mul v (I 256) λy=>Bp .add t y λC=>Ixs c (I 3) λD=>Ci .i64 D λE=>Bp .add C E λF=>R F e
theorem Tz136 (h:Vz136 prog a0 w R):Cl prog 136 #[a0] w R:=
 tz 21 [(.tmp 2)] (s z (s (r (.staged [0,1,3,7,0,16,48,112,255,0,512,1536,3584,8191,0,16384,49152,131071,262143])) z)) [a0] func136 h
def Vz137:VT1:=λP u w R=>
 New u 35 w λv p=>Fo 1 v λy=>Ld y p λc=>Lnl c λf=>VLoop 2 [(I 0),(I 0)] p λ_ q g e k=>Bv .lss e f (Ias 8 c e λC=>LdA 8 C k λD=>New (zeroP P 93) 93 k λt E=>StA 8 t D E λm=>Fo 0 t λF=>Ld F m λG=>Bv .eql G (I 3) (Bp .add g (I 1) λJ=>Bp .add e (I 1) λL=>KS [c,f]<|q J L m) (Bp .add e (I 1) λM=>KS [c,f]<|q g M m)) (R g k)
theorem Tz137 (h:Vz137 prog a0 w R):Cl prog 137 #[a0] w R:=
 tz 20 [(.tmp 2)] (s z (s z (s (s z (b (l [3,9] [7,8] (s z (s (i z z) (s (b (s z (s z (i z z)))) z)))))) (s z z)))) [a0] func137 h
def Vz138:VT3:=λP e f g w R=>
 Bp .mul e f λk=>Bp .sub k (I 19) λc=>Bp .mul (I 8) c λm=>Bp .add g m λp=>Bp .add p (I 12000) λq=>Bp .mul (I 3) c λt=>Bp .add q t λu=>Bp .add u (I 1024) λv=>R v w
theorem Tz138 (h:Vz138 prog a0 a1 a2 w R):Cl prog 138 #[a0,a1,a2] w R:=
 tz 21 [(.tmp 6)] (s z (s z (s z z))) [a0,a1,a2] func138 h
def Vz139:VT3:=λP c e f w R=>
 Bp .add e f λg=>Bp .mul (I 36) c λk=>Bp .add g k λm=>Bp .add m (I 40960) λp=>R p w
theorem Tz139 (h:Vz139 prog a0 a1 a2 w R):Cl prog 139 #[a0,a1,a2] w R:=
 tz 14 [(.tmp 6)] (s z (s z z)) [a0,a1,a2] func139 h
def Vz140:VT2:=λP c e w R=>
 Cl P 139 #[c,e,(I 4096)] w λf g=>Bp .add f (I 32) λk=>R k g
theorem Tz140 (h:Vz140 prog a0 a1 w R):Cl prog 140 #[a0,a1] w R:=
 tz 9 [(.tmp 4)] (s z (s z z)) [a0,a1] func140 h
def Vz141:VT2:=λP c e w R=>
 VJoin 1 (λ_ g f=>Vif g (R (.pointer none) f) (Nc c<|Fo 0 c λk=>Ld k f λm=>Ias 3 m e λp=>R p f)) (λJ5=>Bn P 132 false c (.pointer none) λq=>Vif q (KS [c,e]<|J5 (.bool true) w) (Bv .lss e (I 0) (KS [c,e]<|J5 (.bool true) w) (Nc c<|Fo 0 c λt=>Ld t w λu=>Lnl u λv=>Bp .geq e v λy=>KS [c,e]<|J5 y w)))
theorem Tz141 (h:Vz141 prog a0 a1 w R):Cl prog 141 #[a0,a1] w R:=
 tz 26 [(.tmp 4)] (s z (s (j [19] [0,1] z (i (s z z) z)) (s z z))) [a0,a1] func141 h
def Vz142:VT1:=λP c w R=>
 Bn P 128 false c (.pointer none) λe=>Vif e (R (.slice none 0 0) w) (Nc c<|Fo 2 c λf=>Ld f w λg=>R g w)
theorem Tz142 (h:Vz142 prog a0 w R):Cl prog 142 #[a0] w R:=
 tz 9 [(.tmp 2)] (s z (s (s z (i (s z z) z)) (s z z))) [a0] func142 h
def Vz143:VT1:=λP p w R=>
 VLoop 2 [p,(.slice none 0 0)] w λ_ q c f g=>Lns c λt=>Bv .gtr t (I 0) (Cl P 185 #[c] g λu v=>New (zeroP P 222) 222 v λe y=>StA 2 e u y λk=>LdA 2 e k λC=>Bs P 219 1 #[(0,C)] k λD E=>Ap P #[219,219] 219 #[f,D] E λF m=>Fo 1 e λG=>Ld G m λJ=>Sst c (some J) none λL=>KS []<|q L F m) (R f g)
theorem Tz143 (h:Vz143 prog a0 w R):Cl prog 143 #[a0] w R:=
 tz 19 [(.tmp 2)] (s z (s z (s (b (l [0,3] [] (s (s z (i z z)) (b (s z (s z z)))))) (s z z)))) [a0] func143 h
def Vz144:VT1:=λP c w R=>
 Bv .gtr c (I 32) (Bv .lss c (I 127) (Bv .neq c (I 58) (Bp .neq c (I 35) λe=>R e w) (R (.bool false) w)) (Bp .gtr c (I 160) λf=>Vif f (Bv .neq c (I 58) (Bp .neq c (I 35) λg=>R g w) (R (.bool false) w)) (R (.bool false) w))) (R (.bool false) w)
theorem Tz144 (h:Vz144 prog a0 w R):Cl prog 144 #[a0] w R:=
 tz 21 [(.tmp 2)] (s z (s z z)) [a0] func144 h
def Vz146:VT2:=λP e g w R=>
 Lnl e λk=>VLoop 1 [(I 0)] w λ_ p c f=>Bv .lss c k (Ias 5 e c λq=>LdA 5 q f λt=>Inv P (do let d <-Deferred.ofValue g #[t];invoke d.target d.args) f λu m=>Vif u (R c m) (Bp .add c (I 1) λv=>KS [e,g,k]<|p v m)) (R (I (-1)) f)
theorem Tz146 (h:Vz146 prog a0 a1 w R):Cl prog 146 #[a0,a1] w R:=
 tz 19 [(.tmp 4)] (s z (s (s z (b (l [8] [0,1,7] (s z (s (i z z) (s (b (s z (s z (i (s z z) z)))) z)))))) (s z z))) [a0,a1] func146 h
def Vz147:VT2:=λP c g w R=>
 Bn P 224 false c (.pointer none) λk=>Vif k (R (I 7) w) (Nc c<|Fo 1 c λm=>Ld m w λp=>Cl P 187 #[p,g] w λf e=>Bv .lss f (I 0) (R (I 6) e) (Nc c<|Fo 1 c λq=>Ld q e λt=>Cl P 186 #[t,f] e λu v=>Nc c<|Fo 1 c λy=>St y u v λC=>R (I 0) C))
theorem Tz147 (h:Vz147 prog a0 a1 w R):Cl prog 147 #[a0,a1] w R:=
 tz 25 [(.tmp 4)] (s z (s (s z (i (s z z) z)) (s z (s (s z (i (s z z) z)) (s z (s z z)))))) [a0,a1] func147 h
def Vz148:VT1:=λP c w R=>
 Bn P 186 true c (.pointer none) λe=>Vif e (Nc c<|Fo 1 c λf=>Ld f w λg=>Inv P (invoke (.fn (.method "Done") #[]) (#[g] ++ #[])) w λk m=>R k m) (R (.bool false) w)
theorem Tz148 (h:Vz148 prog a0 w R):Cl prog 148 #[a0] w R:=
 tz 12 [(.tmp 2)] (s z (s z z)) [a0] func148 h
def Vz149:VT2:=λP c e w R=>
 VJoin 1 (λ_ g f=>Vif g (R (I 0) f) (Nc c<|Fo 1 c λk=>Ld k f λm=>Inv P (invoke (.fn (.method "Feed") #[]) (#[m] ++ #[e])) f λp q=>R p q)) (λJ5=>Bn P 186 false c (.pointer none) λt=>Vif t (KS [c, e]<|J5 (.bool true) w) (Cl P 148 #[c] w λu v=>KS [c, e]<|J5 u v))
theorem Tz149 (h:Vz149 prog a0 a1 w R):Cl prog 149 #[a0,a1] w R:=
 tz 17 [(.tmp 4)] (s z (s (j [10] [0,1] z (i (s z z) z)) (s z z))) [a0,a1] func149 h
def Vz150:VT1:=λP c w R=>
 Bn P 186 false c (.pointer none) λe=>Vif e (R (I 7) w) (Nc c<|Fo 1 c λf=>Ld f w λg=>Inv P (invoke (.fn (.method "End") #[]) (#[g] ++ #[])) w λk m=>R k m)
theorem Tz150 (h:Vz150 prog a0 w R):Cl prog 150 #[a0] w R:=
 tz 10 [(.tmp 2)] (s z (s (s z (i (s z z) z)) (s z z))) [a0] func150 h
def Vz151:VT1:=λP c w R=>
 Bn P 230 false c (.pointer none) λL=>Vif L (R (I 0) w) (Dr w λe=>(Nc c<|Fo 0 c λk=>Ld k e λm=>Cl P 156 #[m] e λM f=>Nc c<|Fo 2 c λp=>Ld p f λq=>Rk (λw K=>Ld p w λN=>K N) q e<|Nc c<|Fo 1 c λt=>Ld t f λu=>Rk (λw K=>Ld t w λO=>K O) u e<|Bs P 66 2 #[(0,q),(1,u)] f λQ v=>Rk (λw K=>Ld k w λS=>K S) m v<|Cl P 188 #[M,Q] v λU W=>R U W)/\(Nc c<|Fo 0 c λy=>Ld y e λC=>Nc c<|Fo 2 c λD=>Ld D e λE=>Nc c<|Fo 1 c λF=>Ld F e λG=>Bs P 66 2 #[(0,E),(1,G)] e λY J=>Rk (λw K=>Ld y w λZ=>K Z) C J<|Cl P 156 #[C] J λa0 g=>Rk (λw K=>Ld F w λa1=>K a1) G g<|Rk (λw K=>Ld D w λa2=>K a2) E g<|Cl P 188 #[a0,Y] g λa3 a4=>R a3 a4))
theorem Tz151 (h:Vz151 prog a0 w R):Cl prog 151 #[a0] w R:=
 tz 20 [(.tmp 2)] (s z (s (s z (i (s z z) z)) (s (r (.two [0,1,3,7,15,0,32,96,224,0,512,1536,3584,8160,16383,32767] 4 13 [0,1,2,3,4,5,6,7,8,9,10,11,12,13,14,15] [0,1,2,3,5,6,7,8,9,10,11,12,13,4,14,15])) z))) [a0] func151 h
def Vz152:VT2:=λP c e w R=>
 VJoin 1 (λ_ g f=>Vif g (R (.string ⟨#[]⟩) f) (Nc c<|Fo 1 c λk=>Ld k f λm=>Inv P (invoke (.fn (.method "Take") #[]) (#[m] ++ #[e])) f λp q=>R p q)) (λJ5=>Bn P 186 false c (.pointer none) λt=>Vif t (KS [c, e]<|J5 (.bool true) w) (Cl P 189 #[c] w λu v=>KS [c, e]<|J5 u v))
theorem Tz152 (h:Vz152 prog a0 a1 w R):Cl prog 152 #[a0,a1] w R:=
 tz 17 [(.tmp 4)] (s z (s (j [10] [0,1] z (i (s z z) z)) (s z z))) [a0,a1] func152 h
def Vz153:VT1:=λP D w R=>
 New D 192 w λc E=>New (zeroP P 41) 41 E λf g=>Fo 0 c λF=>Ld F g λG=>Fo 1 c λJ=>Ld J g λL=>Fo 2 c λM=>Ld M g λN=>Bd P 41 #[(0,G),(1,L),(2,N)] g λO=>New (zeroP P 41) 41 g λe Q=>StA 3 e O Q λm=>VJoin 0 (λ_ t=>LdA 3 e t λS=>Cl P 190 #[S] t λu U=>Ex u 0 λW=>Ex u 1 λY=>New (zeroP P 192) 192 U λv Z=>StA 4 v W Z λk=>VJoin 1 (λ_ a0 p=>Vif a0 (Bd P 41 #[] p λa1=>StA 3 f a1 p λy=>LdA 3 f y λa2=>R (.tuple #[a2,(I 35)]) y) (LdA 3 e p λa3=>StA 3 f a3 p λC=>LdA 3 f C λa4=>R (.tuple #[a4,(I 0)]) C)) (λJ21=>Bv .neq Y (I 0) (KS [f,e]<|J21 (.bool true) k) (LdA 4 v k λa5=>LdA 4 c k λa6=>Be P .neq 192 (.tmp 39) (.tmp 40) a5 a6 k λa7=>KS [f,e]<|J21 a7 k))) (λJ26=>VJoin 1 (λ_ a8 q=>Vif a8 (Fo 2 e λa9=>Ld a9 q λb0=>Fo 3 c λb1=>Ld b1 q λb2=>Ci .u8 b2 λb3=>Bs P 79 1 #[(0,b3)] q λb4 b5=>Cw P 79 9 b4 b5 λb6 b7=>Bp .add b0 b6 λb8=>Fo 2 e λb9=>St b9 b8 b7 λc0=>KS [c,f,e]<|J26 c0) (KS [c,f,e]<|J26 q)) (λJ37=>Fo 3 c λc1=>Ld c1 m λc2=>Bp .geq c2 (I 1) λc3=>Vif c3 (Fo 3 c λc4=>Ld c4 m λc5=>Bp .leq c5 (I 255) λc6=>KS [c,f,e]<|J37 c6 m) (KS [c,f,e]<|J37 (.bool false) m)))
theorem Tz153 (h:Vz153 prog a0 w R):Cl prog 153 #[a0] w R:=
 tz 45 [(.cell 2 41),(.tmp 3)] (s z (s z (j [] [1,2,4] (j [21] [1,2,4] z (i z z)) (s (s z (j [42] [2,4] z (i (s z z) z))) (s z z))))) [a0] func153 h
def Vz154:VT1:=λP a6 w R=>
 New a6 41 w λg a2=>LdA 3 g a2 λa7=>Cl P 163 #[a7] a2 λa8 L=>Up .not a8 λa9=>Vif a9 (R (.tuple #[(.string ⟨#[]⟩),(I 35)]) L) (VJoin 1 (λ_ b0 O=>Vif b0 (R (.tuple #[(.string ⟨#[]⟩),(I 1)]) O) (Fo 2 g λb1=>Ld b1 O λb2=>Lns b2 λb3=>Bv .gtr b3 (I 65536) (R (.tuple #[(.string ⟨#[]⟩),(I 2)]) O) (Dr O λu=>Fo 0 g λv=>Ld v u λy=>Ci .u8 y λW=>Fo 1 g λQ=>Ld Q u λM=>Fo 2 g λC=>Ld C u λe=>Lns e λt=>Fo 2 g λk=>Ld k u λf=>(Bs P 79 1 #[(0,W)] u λY D=>Rk (λw K=>Ld k w λc=>K c) f D<|Rk (λw K=>Lns e λm=>K m) t D<|Rk (λw K=>Ld C w λp=>K p) e D<|Rk (λw K=>Ld Q w λN=>K N) M D<|Cv P 79 9 Y D λZ=>Cl P 191 #[M] D λb4 E=>Rk (λw K=>Cv P 79 9 Y w λa0=>K a0) Z E<|Rk (λw K=>Ld k w λc=>K c) f E<|Rk (λw K=>Lns e λm=>K m) t E<|Rk (λw K=>Ld C w λp=>K p) e E<|Rk (λw K=>Ld v w λq=>K q) y E<|Bp .add Z b4 λb5=>Cl P 191 #[t] E λb6 S=>Rk (λw K=>Cv P 79 9 Y w λa0=>K a0) Z S<|Rk (λw K=>Ld k w λc=>K c) f S<|Rk (λw K=>Ld v w λq=>K q) y S<|Bp .add b5 b6 λb7=>Bp .add b7 f λb8=>R (.tuple #[b8,(I 0)]) S)/\(Cl P 191 #[M] u λa3 F=>Rk (λw K=>Ld k w λc=>K c) f F<|Rk (λw K=>Lns e λm=>K m) t F<|Rk (λw K=>Ld C w λp=>K p) e F<|Rk (λw K=>Ld v w λq=>K q) y F<|(Bs P 79 1 #[(0,W)] F λa4 G=>Rk (λw K=>Ld k w λc=>K c) f G<|Rk (λw K=>Lns e λm=>K m) t G<|Rk (λw K=>Ld C w λp=>K p) e G<|Rk (λw K=>Ld Q w λN=>K N) M G<|Cv P 79 9 a4 G λa5=>Bp .add a5 a3 λb9=>Cl P 191 #[t] G λc0 U=>Rk (λw K=>Cv P 79 9 a4 w λc1=>K c1) a5 U<|Rk (λw K=>Ld k w λc=>K c) f U<|Rk (λw K=>Ld v w λq=>K q) y U<|Bp .add b9 c0 λc2=>Bp .add c2 f λc3=>R (.tuple #[c3,(I 0)]) U)/\(Cl P 191 #[t] F λc4 a1=>Rk (λw K=>Ld k w λc=>K c) f a1<|Rk (λw K=>Ld v w λq=>K q) y a1<|Bs P 79 1 #[(0,W)] a1 λc5 J=>Rk (λw K=>Ld k w λc=>K c) f J<|Rk (λw K=>Lns e λm=>K m) t J<|Rk (λw K=>Ld C w λp=>K p) e J<|Rk (λw K=>Ld Q w λN=>K N) M J<|Cv P 79 9 c5 J λc6=>Bp .add c6 a3 λc7=>Bp .add c7 c4 λc8=>Bp .add c8 f λc9=>R (.tuple #[c9,(I 0)]) J))))) (λJ48=>Fo 1 g λd0=>Ld d0 L λd1=>Bp .lss d1 (I 0) λd2=>Vif d2 (KS [g]<|J48 (.bool true) L) (Fo 1 g λd3=>Ld d3 L λd4=>Bp .gtr d4 (I 4294967295) λd5=>KS [g]<|J48 d5 L)))
theorem Tz154 (h:Vz154 prog a0 w R):Cl prog 154 #[a0] w R:=
 tz 39 [(.tmp 2),(.tmp 3)] (s z (s (b (s z (i (s z z) (j [8] [1] z (i (s z z) (s z (i (s z z) z))))))) (s (r (.tree [0,1,3,7,15,0,32,96,255,0,512,1536,3808,8191,0,16384,65535,131071,262143] (.op 0 (.op 1 (.op 2 (.op 5 (.op 6 (.op 9 (.op 10 (.op 11 (.op 14 (.op 15 (.fk (.op 3 (.op 4 (.op 7 (.op 8 (.op 12 (.op 13 (.op 16 (.op 17 (.op 18 .dn))))))))) (.op 7 (.fk (.op 3 (.op 4 (.op 8 (.op 12 (.op 13 (.op 16 (.op 17 (.op 18 .dn)))))))) (.op 12 (.op 3 (.op 4 (.op 8 (.op 13 (.op 16 (.op 17 (.op 18 .dn))))))))))))))))))))))) z))) [a0] func154 h
def Vz155:VT2:=λP c e w R=>
 Cl P 192 #[c] w λv f=>Nc c<|Fo 1 c λg=>Ld g f λk=>Ap P #[79,9] 79 #[k,e] f λm p=>Nc c<|Fo 1 c λq=>St q m p λt=>Lns e λu=>R (.tuple #[u,.nilIface]) t
theorem Tz155 (h:Vz155 prog a0 a1 w R):Cl prog 155 #[a0,a1] w R:=
 tz 19 [(.tmp 4),(.tmp 5)] (s z (s z (s z (s z z)))) [a0,a1] func155 h
def Vz156:VT1:=λP c w R=>
 VJoin 1 (λ_ f e=>Vif f (R (I 0) e) (Nc c<|Fo 1 c λg=>Ld g e λk=>Inv P (invoke (.fn (.method "Waiting") #[]) (#[k] ++ #[])) e λm p=>R m p)) (λJ5=>Bn P 186 false c (.pointer none) λq=>Vif q (KS [c]<|J5 (.bool true) w) (Cl P 189 #[c] w λt u=>KS [c]<|J5 t u))
theorem Tz156 (h:Vz156 prog a0 w R):Cl prog 156 #[a0] w R:=
 tz 14 [(.tmp 2)] (s z (s (j [8] [0] z (i (s z z) z)) (s z z))) [a0] func156 h
def Vz157:VT2:=λP c C w R=>
 New C 3 w λm D=>New (zeroP P 111) 111 D λe p=>Ld m p λE=>Cl P 55 #[c,E] p λq F=>Ex q 0 λG=>Ex q 1 λg=>New (zeroP P 111) 111 F λk J=>StA 4 k G J λf=>Bv .eql g (I 0) (Nc c<|Fo 2 c λL=>Ld L f λM=>Cl P 194 #[M] f λN t=>Mf P (.func 195) #[] #[m] t λO=>Cl P 193 #[N,O] t λQ S=>Nc c<|Fo 2 c λU=>St U Q S λu=>LdA 4 k u λW=>StA 4 e W u λv=>LdA 4 e v λY=>R (.tuple #[Y,g]) v) (LdA 4 k f λZ=>StA 4 e Z f λy=>LdA 4 e y λa0=>R (.tuple #[a0,g]) y)
theorem Tz157 (h:Vz157 prog a0 a1 w R):Cl prog 157 #[a0,a1] w R:=
 tz 28 [(.cell 4 111),(.tmp 5)] (s z (s z (s (s z (i z z)) (s z z)))) [a0,a1] func157 h
def Vz158:VT2:=λP c e w R=>
 Bn P 142 false c (.pointer none) λk=>Vif k (R (I 7) w) (Cl P 160 #[c,e] w λf g=>Bv .lss f (I 0) (R (I 6) g) (Cl P 105 #[c,f,e] g λp m=>R (I 0) m))
theorem Tz158 (h:Vz158 prog a0 a1 w R):Cl prog 158 #[a0,a1] w R:=
 tz 17 [(.tmp 4)] (s z (s (s z (i (s z z) z)) (s z (s (s z (i (s z z) z)) (s z (s z z)))))) [a0,a1] func158 h
def Vz159:VT3:=λP k m e w R=>
 Cl P 141 #[k,m] w λc f=>Bn P 132 false k (.pointer none) λp=>Vif p (R (I 7) f) (Bn P 134 false c (.pointer none) λq=>Vif q (R (I 6) f) (VJoin 1 (λ_ t g=>Vif t (R (I 1) g) (Nc c<|Fo 1 c λu=>Ld u g λv=>Bp .sub v e λy=>Nc c<|Fo 1 c λC=>St C y g λD=>R (I 0) D)) (λJ9=>Bp .lss e (I 0) λE=>Vif E (KS [e,c]<|J9 (.bool true) f) (Nc c<|Fo 1 c λF=>Ld F f λG=>Bp .gtr e G λJ=>KS [e,c]<|J9 J f))))
theorem Tz159 (h:Vz159 prog a0 a1 a2 w R):Cl prog 159 #[a0,a1,a2] w R:=
 tz 36 [(.tmp 6)] (s z (s z (s (b (s z (i (s z z) (s z (i (s z z) (j [17] [2,7] z (i (s z z) z))))))) (s z (s z z))))) [a0,a1,a2] func159 h
def Vz160:VT2:=λP e f w R=>
 New f 3 w λg c=>Nc e<|Fo 0 e λk=>Ld k c λm=>Mf P (.func 197) #[] #[g] c λp=>Cl P 196 #[m,p] c λq t=>R q t
theorem Tz160 (h:Vz160 prog a0 a1 w R):Cl prog 160 #[a0,a1] w R:=
 tz 11 [(.tmp 4)] (s z (s z z)) [a0,a1] func160 h
def Vz161:VT2:=λP c f w R=>
 Bn P 224 false c (.pointer none) λk=>Vif k (R (I 7) w) (Cl P 198 #[c,f] w λm g=>Vif m (R (I 8) g) (Dr g λe=>Nc c<|Fo 1 c λp=>Ld p e λq=>Lnl q λt=>Nc c<|Fo 0 c λu=>Ld u e λv=>Bv .eql t v (R (I 5) e) (Nc c<|Fo 1 c λy=>Ld y e λC=>Bs P 66 1 #[(0,f)] e λD E=>Ap P #[66,66] 66 #[C,D] E λF G=>Nc c<|Fo 1 c λJ=>St J F G λL=>R (I 0) L)))
theorem Tz161 (h:Vz161 prog a0 a1 w R):Cl prog 161 #[a0,a1] w R:=
 tz 33 [(.tmp 4)] (s z (s (b (s z (i (s z z) (s z (i (s z z) (s (r (.staged [0,1,3,7,15,0,32,96,224,511,1023])) (i (s z z) z))))))) (s z (s z z)))) [a0,a1] func161 h
def Vz162:VT1:=λP c w R=>
 Cl P 199 #[c] w λf e=>Ex f 0 λq=>Ex f 1 λg=>Bv .lss g (I 0) (Bv .neq c (.string ⟨#[]⟩) (Cl P 200 #[c] e λk m=>Bp .leq k (I 32) λp=>R p m) (R (.bool false) e)) (R (.bool false) e)
theorem Tz162 (h:Vz162 prog a0 w R):Cl prog 162 #[a0] w R:=
 tz 21 [(.tmp 2)] (s z (s z (s z z))) [a0] func162 h
def Vz163:VT1:=λP g w R=>
 New g 41 w λe f=>LdA 3 e f λk=>Cl P 201 #[k] f λm c=>Vif m (R (.bool true) c) (LdA 3 e c λp=>Cl P 202 #[p] c λq t=>R q t)
theorem Tz163 (h:Vz163 prog a0 w R):Cl prog 163 #[a0] w R:=
 tz 9 [(.tmp 2)] (s z (s z z)) [a0] func163 h
def Vz164:VT1:=λP e w R=>
 VLoop 2 [(I 0),(I 0)] w λ_ k f c g=>Bv .lss c (I 4) (Bp .shl f (.int .u64 8) λm=>Ixs e c λp=>Ci .i64 p λq=>Bp .or m q λt=>Bp .add c (I 1) λu=>KS [e]<|k t u g) (R f g)
theorem Tz164 (h:Vz164 prog a0 w R):Cl prog 164 #[a0] w R:=
 tz 17 [(.tmp 2)] (s z (s z (s (s z (b (l [3,5] [0] (s z (s (i z z) (s (b (s z z)) z)))))) (s z z)))) [a0] func164 h
def Vz165:VT1:=λP c w R=>
 Lns c λe=>Bv .neq e (I 4) (R (.tuple #[(I 0),(I 1)]) w) (Cl P 164 #[c] w λf g=>R (.tuple #[f,(I 0)]) g)
theorem Tz165 (h:Vz165 prog a0 w R):Cl prog 165 #[a0] w R:=
 tz 9 [(.tmp 2),(.tmp 3)] (s z (s (s z (i (s z z) z)) (s z z))) [a0] func165 h
def Vz167:VT2:=λP e g w R=>
 Lnl e λk=>VLoop 2 [(I (-1)),(I 0)] w λ_ p f c m=>Bv .lss c k (Ias 5 e c λy=>LdA 5 y m λC=>New (zeroP P 51) 51 m λq D=>StA 5 q C D λt=>VJoin 1 (λ_ E u=>Vif E (Bp .add c (I 1) λF=>KS [g,e,k]<|p c F u) (Bp .add c (I 1) λG=>KS [g,e,k]<|p f G u)) (λJ12=>Fo 1 q λJ=>Ld J t λL=>Cl P 203 #[L,g] t λM v=>Vif M (Bp .eql f (I (-1)) λN=>KS [g,f,c,e,k,c]<|J12 N v) (KS [g,f,c,e,k,c]<|J12 (.bool false) v))) (Bp .eql f (I (-1)) λO=>Vif O (R (.tuple #[(I 0),(I 30)]) m) (R (.tuple #[f,(I 0)]) m))
theorem Tz167 (h:Vz167 prog a0 a1 w R):Cl prog 167 #[a0,a1] w R:=
 tz 29 [(.tmp 4),(.tmp 5)] (s z (s z (s (s z (b (l [6,11] [1,9,10] (s z (s (i z z) (s (b (s z (j [23] [1,6,7,9,10,11] z (i z z)))) z)))))) (s (s z (i (s z z) z)) (s z z))))) [a0,a1] func167 h
def Vz168:VT1:=λP f w R=>
 New f 41 w λe c=>Fo 1 e λg=>Ld g c λk=>Bv .geq k (I 0) (Fo 1 e λm=>Ld m c λp=>Bv .leq p (I 4294967295) (Fo 2 e λq=>Ld q c λt=>Lns t λu=>Bp .leq u (I 65536) λv=>R v c) (R (.bool false) c)) (R (.bool false) c)
theorem Tz168 (h:Vz168 prog a0 w R):Cl prog 168 #[a0] w R:=
 tz 17 [(.tmp 2)] (s z (s z z)) [a0] func168 h
def Vz169:VT1:=λP c w R=>
 Bv .eql c (.string ⟨#[120]⟩) (R (.tuple #[(I 2),(I 0)]) w) (Bv .eql c (.string ⟨#[116]⟩) (R (.tuple #[(I 3),(I 0)]) w) (VJoin 1 (λ_ f e=>Vif f (Dr e λg=>Ixs c (I 1) λk=>Bp .sub k (.int .u8 48) λm=>Ci .i64 m λp=>R (.tuple #[(I 1),p]) g) (R (.tuple #[(I 0),(I 0)]) e)) (λJ7=>Lns c λq=>Bp .eql q (I 2) λt=>Vif t (Ixs c (I 0) λu=>Bv .eql u (.int .u8 99) (Ixs c (I 1) λv=>Bv .geq v (.int .u8 49) (Ixs c (I 1) λy=>Bp .leq y (.int .u8 57) λC=>KS [c]<|J7 C w) (KS [c]<|J7 (.bool false) w)) (KS [c]<|J7 (.bool false) w)) (KS [c]<|J7 (.bool false) w))))
theorem Tz169 (h:Vz169 prog a0 w R):Cl prog 169 #[a0] w R:=
 tz 33 [(.tmp 2),(.tmp 3)] (s z (s (b (s z (i (s z z) (s z (i (s z z) (j [10] [0] z (i (s (r (.staged [0,1,3,7,0,31])) z) z))))))) (s z z))) [a0] func169 h
def Vz170:VT2:=λP f u w R=>
 New u 206 w λe v=>New (zeroP P 158) 158 v λg y=>Dr y λc=>Nc f<|Fo 2 f λC=>Ld C c λD=>Fo 1 e λE=>Ld E c λF=>Lk P 199 D F false c λG=>Bv .neq G (I 0) (Fo 1 e λJ=>Ld J c λL=>Cl P 127 #[L,(I 8)] c λM N=>StA 8 g M N λp=>LdA 8 g p λO=>R O p) (Nc f<|Fo 2 f λQ=>Ld Q c λS=>Ln P #[199] 3 #[S] c λU=>Bv .eql U (I 1024) (Fo 1 e λW=>Ld W c λY=>Cl P 127 #[Y,(I 5)] c λZ a0=>StA 8 g Z a0 λq=>LdA 8 g q λa1=>R a1 q) (Dr c λm=>Nc f<|Fo 2 f λa2=>Ld a2 m λa3=>Fo 1 e λa4=>Ld a4 m λa5=>Mu P 199 a3 a5 (I 1) m λk=>Fo 1 e λa6=>Ld a6 k λa7=>Fo 4 e λa8=>Ld a8 k λa9=>Fo 5 e λb0=>Ld b0 k λb1=>Bd P 158 #[(0,(I 3)),(1,a7),(3,a9),(4,b1)] k λb2=>StA 8 g b2 k λt=>LdA 8 g t λb3=>R b3 t))
theorem Tz170 (h:Vz170 prog a0 a1 w R):Cl prog 170 #[a0,a1] w R:=
 tz 40 [(.cell 4 158)] (s z (s (b (s (r (.staged [0,1,3,7,0,16,63,127,255])) (i (s z z) (s z (i (s z z) z))))) (s (r (.staged [0,1,3,7,0,16,63])) (s z z)))) [a0,a1] func170 h
def Vz171:VT2:=λP k m w R=>
 New m 206 w λf p=>Dr p λc=>Nc k<|Fo 2 k λq=>Ld q c λt=>Fo 1 f λu=>Ld u c λv=>Lk P 199 t v false c λe=>VJoin 1 (λ_ y g=>Bp .and e (I 4) λC=>Bp .neq C (I 0) λD=>Vif D (R (.bool true) g) (Vif y (Bp .and e (I 2) λE=>Bp .neq E (I 0) λF=>R F g) (R (.bool false) g))) (λJ15=>Fo 0 f λG=>Ld G c λJ=>Bp .eql J (I 3) λL=>Vif L (KS [e]<|J15 (.bool true) c) (Fo 0 f λM=>Ld M c λN=>Bp .eql N (I 4) λO=>KS [e]<|J15 O c))
theorem Tz171 (h:Vz171 prog a0 a1 w R):Cl prog 171 #[a0,a1] w R:=
 tz 33 [(.tmp 4)] (s z (s (r (.staged [0,1,3,7,0,16,63,127])) (j [6] [5] z (s z z)))) [a0,a1] func171 h
def Vz172:VT2:=λP g J w R=>
 New J 206 w λe L=>New (zeroP P 158) 158 L λf c=>Fo 0 e λM=>Ld M c λp=>Bv .eql p (I 3) (Fo 1 e λN=>Ld N c λO=>Fo 3 e λQ=>Ld Q c λS=>Bd P 158 #[(0,(I 4)),(1,O),(6,S)] c λU=>StA 8 f U c λu=>LdA 8 f u λW=>R W u) (Bv .eql p (I 4) (Dr c λk=>Nc g<|Fo 2 g λY=>Ld Y k λv=>Fo 1 e λZ=>Ld Z k λy=>Lk P 199 v y false k λa0=>Bp .or a0 (I 2) λa1=>Mu P 199 v y a1 k λq=>Fo 1 e λa2=>Ld a2 q λa3=>Bd P 158 #[(0,(I 5)),(1,a3)] q λa4=>StA 8 f a4 q λC=>LdA 8 f C λa5=>R a5 C) (Bp .eql p (I 5) λa6=>Vif a6 (Dr c λm=>Nc g<|Fo 2 g λa7=>Ld a7 m λD=>Fo 1 e λa8=>Ld a8 m λE=>Lk P 199 D E false m λa9=>Bp .or a9 (I 4) λb0=>Mu P 199 D E b0 m λt=>Fo 1 e λb1=>Ld b1 t λb2=>Bd P 158 #[(0,(I 6)),(1,b2)] t λb3=>StA 8 f b3 t λF=>LdA 8 f F λb4=>R b4 F) (Fo 1 e λb5=>Ld b5 c λb6=>Fo 6 e λb7=>Ld b7 c λb8=>Bd P 158 #[(0,(I 7)),(1,b6),(5,b8)] c λb9=>StA 8 f b9 c λG=>LdA 8 f G λc0=>R c0 G)))
theorem Tz172 (h:Vz172 prog a0 a1 w R):Cl prog 172 #[a0,a1] w R:=
 tz 45 [(.cell 4 158)] (s z (s (s z (b (s z (i (s z z) (s z (i (s (r (.staged [0,1,3,7,0,16,63,127,255])) (s z z)) (s z (i (s (r (.staged [0,1,3,7,0,16,63,127,255])) (s z z)) z)))))))) (s z z))) [a0,a1] func172 h
def Vz173:VT1:=λP c w R=>
 Lnl c λg=>VLoop 2 [(.slice none 0 0),(I 0)] w λ_ m k e f=>Bv .lss e g (Ias 1 c e λp=>Ld p f λq=>Cl P 204 #[q] f λt u=>Bs P 273 1 #[(0,t)] u λv y=>Ap P #[273,273] 273 #[k,v] y λC D=>Bp .add e (I 1) λE=>KS [c,g]<|m C E D) (Cl P 205 #[k,(.string ⟨#[32]⟩)] f λF G=>R F G)
theorem Tz173 (h:Vz173 prog a0 w R):Cl prog 173 #[a0] w R:=
 tz 20 [(.tmp 2)] (s z (s z (s (s z (b (l [3,8] [6,7] (s z (s (i z z) (s (b (s z z)) z)))))) (s z z)))) [a0] func173 h
def Vz174:VT2:=λP c e w R=>
 Cl P 91 #[c,e,(.func (.func 206) #[] #[])] w λf g=>R f g
theorem Tz174 (h:Vz174 prog a0 a1 w R):Cl prog 174 #[a0,a1] w R:=
 tz 8 [(.tmp 4)] (s z (s z z)) [a0,a1] func174 h
def Vz175:VT4:=λP c p e f w R=>
 Bv .eql c (I 1) (Cl P 207 #[p,e,f] w λg q=>Ex g 0 λt=>Ex g 1 λu=>R (.tuple #[t,u]) q) (Bv .eql c (I 2) (Cl P 208 #[e,f,(I 4096)] w λk v=>Ex k 0 λy=>Ex k 1 λC=>R (.tuple #[y,C]) v) (Bv .eql c (I 3) (Cl P 209 #[e,f] w λm D=>Ex m 0 λE=>Ex m 1 λF=>R (.tuple #[E,F]) D) (R (.tuple #[(I 0),(I 1)]) w)))
theorem Tz175 (h:Vz175 prog a0 a1 a2 a3 w R):Cl prog 175 #[a0,a1,a2,a3] w R:=
 tz 33 [(.tmp 8),(.tmp 9)] (s z (s (s z (b (s z (i (s z z) (s z (i (s z z) (s z (i (s z z) z)))))))) (s z z))) [a0,a1,a2,a3] func175 h
def Vz176:VT3:=λP c g k w R=>
 Nc c<|Fo 10 c λt=>Ld t w λu=>Cl P 174 #[u,g] w λv m=>Bv .gtr k v (R (I 33) m) (Dr m λf=>Nc c<|Fo 9 c λy=>Ld y f λC=>Cl P 210 #[C] f λD e=>Nc c<|Fo 0 c λE=>Fo 5 E λp=>Ld p e λq=>Rk (λw K=>Ld p w λF=>K F) q f<|Bv .eql D q (R (I 34) e) (Nc c<|Fo 10 c λG=>Ld G e λJ=>Cl P 211 #[J,g,k] e λL M=>R L M))
theorem Tz176 (h:Vz176 prog a0 a1 a2 w R):Cl prog 176 #[a0,a1,a2] w R:=
 tz 35 [(.tmp 6)] (s z (s (b (s z (i (s z z) (s (r (.staged [0,1,3,7,15,0,32,96,224,480,1023,2047])) (i (s z z) z))))) (s z z))) [a0,a1,a2] func176 h
def Vz177:VT4:=λP e k m p w R=>
 Cl P 212 #[e,k,m,p] w λf c=>Ex f 0 λq=>Ex f 1 λg=>Bv .neq g (I 0) (R (.tuple #[(.pointer none),g]) c) (Bd P 186 #[(0,e),(1,q)] c λt=>New t 186 c λu v=>R (.tuple #[u,(I 0)]) v)
theorem Tz177 (h:Vz177 prog a0 a1 a2 a3 w R):Cl prog 177 #[a0,a1,a2,a3] w R:=
 tz 27 [(.tmp 8),(.tmp 9)] (s z (s z (s (s z (i (s z z) z)) (s z z)))) [a0,a1,a2,a3] func177 h
def Vz178:VT1:=λP c w R=>
 Bn P 186 false c (.pointer none) λe=>Vif e (R (.tuple #[(.pointer none),(I 7)]) w) (Bd P 228 #[(0,c)] w λf=>New f 228 w λg k=>R (.tuple #[g,(I 0)]) k)
theorem Tz178 (h:Vz178 prog a0 w R):Cl prog 178 #[a0] w R:=
 tz 9 [(.tmp 2),(.tmp 3)] (s z (s (s z (i (s z z) z)) (s z z))) [a0] func178 h
def Vz179:VT2:=λP e c w R=>
 Bn P 186 false e (.pointer none) λg=>Vif g (R (.tuple #[(.pointer none),(I 7)]) w) (VJoin 1 (λ_ k f=>Vif k (R (.tuple #[(.pointer none),(I 1)]) f) (Bd P 230 #[(0,e),(1,c)] f λm=>New m 230 f λp q=>R (.tuple #[p,(I 0)]) q)) (λJ5=>Bv .lss c (I 1) (KS [e,c]<|J5 (.bool true) w) (Bp .gtr c (I 4096) λt=>KS [e,c]<|J5 t w)))
theorem Tz179 (h:Vz179 prog a0 a1 w R):Cl prog 179 #[a0,a1] w R:=
 tz 20 [(.tmp 4),(.tmp 5)] (s z (s (b (s z (i (s z z) (j [9] [0,1] z (i (s z z) z))))) (s z z))) [a0,a1] func179 h
def Vz180:VT2:=λP c y w R=>
 New y 111 w λk g=>Bn P 128 false c (.pointer none) λC=>Vif C (R (.tuple #[(I 0),(I 7)]) g) (Fo 0 k λD=>Ld D g λE=>Fo 1 k λF=>Ld F g λG=>Cl P 181 #[c,E,G] g λm p=>Ex m 0 λb1=>Ex m 1 λJ=>Bv .eql J (I 0) (R (.tuple #[(I 0),(I 8)]) p) (Dr p λe=>Nc c<|Fo 2 c λL=>Ld L e λM=>Lnl M λN=>Nc c<|Fo 0 c λO=>Ld O e λQ=>Bv .eql N Q (R (.tuple #[(I 0),(I 5)]) e) (Nc c<|Fo 1 c λS=>Ld S e λU=>Bp .add U (I 1) λW=>Nc c<|Fo 1 c λY=>St Y W e λZ=>Dr Z λf=>Nc c<|Fo 2 c λq=>Ld q f λt=>LdA 4 k f λa0=>Nc c<|Fo 1 c λa1=>Ld a1 f λa2=>Bd P 178 #[(0,a0),(1,a2)] f λa3=>Bs P 126 1 #[(0,a3)] f λa4 u=>Rk (λw K=>Ld q w λa5=>K a5) t u<|Ap P #[126,126] 126 #[t,a4] u λa6 a7=>Nc c<|Fo 2 c λa8=>St a8 a6 a7 λv=>Nc c<|Fo 1 c λa9=>Ld a9 v λb0=>R (.tuple #[b0,(I 0)]) v)))
theorem Tz180 (h:Vz180 prog a0 a1 w R):Cl prog 180 #[a0,a1] w R:=
 tz 57 [(.tmp 4),(.tmp 5)] (s z (s (s z (i (s z z) z)) (s (s z (s z (i (s z z) z))) (s (s (r (.staged [0,1,3,7,15,0,32,96,224,511])) (i (s z z) z)) (s z (s (r (.staged [0,0,2,6,14,0,0,64,192,448,992,2016,4094,8191,16383,32767])) (s z z))))))) [a0,a1] func180 h
def Vz181:VT3:=λP c k m w R=>
 New k 3 w λp q=>New m 3 q λt f=>Bn P 128 false c (.pointer none) λu=>Vif u (R (.tuple #[(I 0),(I 7)]) f) (Mf P (.func 213) #[] #[p,t] f λv=>Cl P 100 #[c,v] f λg e=>Bv .lss g (I 0) (R (.tuple #[(I 0),(I 6)]) e) (Nc c<|Fo 2 c λy=>Ld y e λC=>Ias 5 C g λD=>Fo 4 D λE=>Ld E e λF=>R (.tuple #[F,(I 0)]) e))
theorem Tz181 (h:Vz181 prog a0 a1 a2 w R):Cl prog 181 #[a0,a1,a2] w R:=
 tz 24 [(.tmp 6),(.tmp 7)] (s z (s (s z (i (s z z) z)) (s z (s (s z (i (s z z) z)) (s z z))))) [a0,a1,a2] func181 h
def Vz182:VT2:=λP c e w R=>
 Bn P 228 false c (.pointer none) λf=>Vif f (R (I 7) w) (Nc c<|Fo 2 c λg=>Ld g w λk=>Vif k (R (I 32) w) (Nc c<|Fo 1 c λm=>Ld m w λp=>Bv .neq p (.string ⟨#[]⟩) (R (I 34) w) (Lns e λq=>Bv .gtr q (I 65536) (R (I 2) w) (Nc c<|Fo 1 c λt=>St t e w λu=>Cl P 106 #[c] u λy v=>R (I 0) v))))
theorem Tz182 (h:Vz182 prog a0 a1 w R):Cl prog 182 #[a0,a1] w R:=
 tz 29 [(.tmp 4)] (s z (s (b (s z (i (s z z) (s z (i (s z z) (s z (i (s z z) (s z (i (s z z) z))))))))) (s z (s z (s z z))))) [a0,a1] func182 h
def Vz183:VT1:=λP c w R=>
 Bn P 228 false c (.pointer none) λe=>Vif e (R (I 7) w) (Nc c<|Fo 2 c λf=>Ld f w λg=>Vif g (R (I 32) w) (Nc c<|Fo 2 c λk=>St k (.bool true) w λm=>Cl P 106 #[c] m λq p=>R (I 0) p))
theorem Tz183 (h:Vz183 prog a0 w R):Cl prog 183 #[a0] w R:=
 tz 16 [(.tmp 2)] (s z (s (b (s z (i (s z z) (s z (i (s z z) z))))) (s z (s z (s z z))))) [a0] func183 h
def Vz184:VT2:=λP c e w R=>
 Bn P 230 false c (.pointer none) λg=>Vif g (R (I 7) w) (VJoin 1 (λ_ k f=>Vif k (R (I 1) f) (Nc c<|Fo 2 c λm=>Ld m f λp=>Bp .add p e λq=>Bs P 66 1 #[(0,(I 1099511627776))] f λt u=>Cl P 188 #[q,t] u λv y=>Nc c<|Fo 2 c λC=>St C v y λD=>R (I 0) D)) (λJ9=>Bp .lss e (I 0) λE=>Vif E (KS [c,e]<|J9 (.bool true) w) (Bp .gtr e (I 1099511627776) λF=>KS [c,e]<|J9 F w)))
theorem Tz184 (h:Vz184 prog a0 a1 w R):Cl prog 184 #[a0,a1] w R:=
 tz 26 [(.tmp 4)] (s z (s (b (s z (i (s z z) (j [8] [0,1] z (i (s z z) z))))) (s z (s z z)))) [a0,a1] func184 h
def Vz185:VT1:=λP g w R=>
 New (zeroP P 222) 222 w λc m=>Ixs g (I 0) λf=>Bv .lss f (.int .u8 128) (Ci .i64 f λF=>Bd P 222 #[(0,F),(1,(I 1))] m λG=>StA 2 c G m λp=>LdA 2 c p λJ=>R J p) (Bd P 222 #[] m λL=>New (zeroP P 222) 222 m λe M=>StA 2 e L M λq=>VJoin 0 (λ_ t=>VJoin 0 (λ_ u=>VJoin 0 (λ_ k=>Fo 1 e λN=>Ld N k λO=>Bv .eql O (I 0) (Bd P 222 #[(0,(I (-1))),(1,(I 1))] k λQ=>StA 2 c Q k λv=>LdA 2 c v λS=>R S v) (LdA 2 e k λU=>StA 2 c U k λy=>LdA 2 c y λW=>R W y)) (λJ16=>VJoin 1 (λ_ Y C=>Vif Y (Cl P 214 #[g,(I 4)] C λZ a0=>StA 2 e Z a0 λa1=>KS [c,e]<|J16 a1) (KS [c,e]<|J16 C)) (λJ19=>Bv .geq f (.int .u8 240) (Bp .lss f (.int .u8 248) λa2=>KS [g,c,e]<|J19 a2 u) (KS [g,c,e]<|J19 (.bool false) u)))) (λJ22=>VJoin 1 (λ_ a3 D=>Vif a3 (Cl P 214 #[g,(I 3)] D λa4 a5=>StA 2 e a4 a5 λa6=>KS [g,c,f,e]<|J22 a6) (KS [g,c,f,e]<|J22 D)) (λJ25=>Bp .geq f (.int .u8 224) λa7=>Vif a7 (Bp .lss f (.int .u8 240) λa8=>KS [g,c,f,e]<|J25 a8 t) (KS [g,c,f,e]<|J25 (.bool false) t)))) (λJ28=>VJoin 1 (λ_ a9 E=>Vif a9 (Cl P 214 #[g,(I 2)] E λb0 b1=>StA 2 e b0 b1 λb2=>KS [g,c,f,e]<|J28 b2) (KS [g,c,f,e]<|J28 E)) (λJ31=>Bp .geq f (.int .u8 192) λb3=>Vif b3 (Bp .lss f (.int .u8 224) λb4=>KS [g,c,f,e]<|J31 b4 q) (KS [g,c,f,e]<|J31 (.bool false) q))))
theorem Tz185 (h:Vz185 prog a0 w R):Cl prog 185 #[a0] w R:=
 tz 42 [(.cell 2 222)] (s z (s z (s (s z (i (s z z) z)) (s z (j [] [0,2,3,4] (j [18] [0,2,3,4] z (i z z)) (j [] [0,2,3,4] (j [26] [0,2,3,4] z (i z z)) (j [] [2,4] (j [34] [0,2,4] z (i z z)) (s (s z (i (s z z) z)) (s z z))))))))) [a0] func185 h
def Vz186:VT2:=λP c e w R=>
 Lnl c λf=>Bp .sub f (I 1) λg=>Ms P 66 (I 0) g w λk m=>Ssl 1 c none (some e) λp=>Ap P #[66,66] 66 #[k,p] m λq t=>Bp .add e (I 1) λu=>Ssl 1 c (some u) none λv=>Ap P #[66,66] 66 #[q,v] t λy C=>R y C
theorem Tz186 (h:Vz186 prog a0 a1 w R):Cl prog 186 #[a0,a1] w R:=
 tz 21 [(.tmp 4)] (s z (s z (s z (s z z)))) [a0,a1] func186 h
def Vz187:VT2:=λP f g w R=>
 Lnl f λk=>VLoop 1 [(I 0)] w λ_ m c e=>Bv .lss c k (Ias 1 f c λp=>Ld p e λq=>Bv .eql g q (R c e) (Bp .add c (I 1) λt=>KS [f,g,k]<|m t e)) (R (I (-1)) e)
theorem Tz187 (h:Vz187 prog a0 a1 w R):Cl prog 187 #[a0,a1] w R:=
 tz 19 [(.tmp 4)] (s z (s (s z (b (l [8] [0,1,7] (s z (s (i z z) (s (b (s z (s z (i (s z z) z)))) z)))))) (s z z))) [a0,a1] func187 h
def Vz188:VT2:=λP m e w R=>
 Lnl e λg=>VLoop 2 [m,(I 0)] w λ_ p k f c=>Bv .lss f g (Ias 1 e f λq=>Ld q c λt=>Bmin P #[3,3] 3 #[k,t] c λu=>Bp .add f (I 1) λv=>KS [e,g]<|p u v c) (R k c)
theorem Tz188 (h:Vz188 prog a0 a1 w R):Cl prog 188 #[a0,a1] w R:=
 tz 18 [(.tmp 4)] (s z (s (s z (b (l [0,9] [7,8] (s z (s (i z z) (s (b (s z z)) z)))))) (s z z))) [a0,a1] func188 h
def Vz189:VT1:=λP c w R=>
 Cl P 111 #[c] w λe f=>Bp .neq e (I 0) λg=>R g f
theorem Tz189 (h:Vz189 prog a0 w R):Cl prog 189 #[a0] w R:=
 tz 6 [(.tmp 2)] (s z (s z z)) [a0] func189 h
def Vz190:VT1:=λP L w R=>
 New L 41 w λf M=>New (zeroP P 192) 192 M λe q=>Fo 0 f λN=>Ld N q λO=>Fo 1 f λQ=>Ld Q q λS=>Bd P 192 #[(0,O),(1,S)] q λU=>New (zeroP P 192) 192 q λc W=>StA 4 c U W λD=>LdA 3 f D λY=>Cl P 168 #[Y] D λk u=>VJoin 1 (λ_ Z t=>Up .not Z λa0=>Vif a0 (Bd P 192 #[] t λa1=>StA 4 e a1 t λE=>LdA 4 e E λa2=>R (.tuple #[a2,(I 35)]) E) (LdA 4 c t λa3=>StA 4 e a3 t λF=>LdA 4 e F λa4=>R (.tuple #[a4,(I 0)]) F)) (λJ17=>Fo 0 f λa5=>Ld a5 u λm=>VJoin 1 (λ_ a6 g=>Vif a6 (Fo 2 f λa7=>Ld a7 g λa8=>Fo 2 c λa9=>St a9 a8 g λv=>Vif k (Fo 1 f λb0=>Ld b0 v λb1=>Bp .eql b1 (I 0) λb2=>KS [e,c]<|J17 b2 v) (KS [e,c]<|J17 (.bool false) v)) (Bp .eql m (I 66) λb3=>Vif b3 (Fo 2 f λb4=>Ld b4 g λb5=>Fo 2 c λb6=>St b6 b5 g λb7=>KS [e,c]<|J17 k b7) (Bv .eql m (I 67) (Vif k (Fo 2 f λb8=>Ld b8 g λb9=>Bp .eql b9 (.string ⟨#[]⟩) λc0=>KS [e,c]<|J17 c0 g) (KS [e,c]<|J17 (.bool false) g)) (VJoin 1 (λ_ c1 p=>Vif c1 (VJoin 1 (λ_ y C=>Vif y (Fo 2 f λc2=>Ld c2 C λc3=>Ixs c3 (I 0) λc4=>Ci .i64 c4 λc5=>Fo 3 c λc6=>St c6 c5 C λc7=>KS [e,c]<|J17 y c7) (KS [e,c]<|J17 y C)) (λJ42=>Vif k (Fo 2 f λc8=>Ld c8 p λc9=>Lns c9 λd0=>Bp .eql d0 (I 1) λd1=>Vif d1 (Fo 2 f λd2=>Ld d2 p λd3=>Ixs d3 (I 0) λd4=>Bp .gtr d4 (.int .u8 0) λd5=>KS [f,e,c]<|J42 d5 p) (KS [f,e,c]<|J42 (.bool false) p)) (KS [f,e,c]<|J42 (.bool false) p))) (KS [e,c]<|J17 (.bool false) p)) (λJ51=>Bp .eql m (I 68) λG=>Vif G (KS [f,e,c,k]<|J51 G g) (Bp .eql m (I 69) λd6=>KS [f,e,c,k]<|J51 d6 g)))))) (λJ54=>Bp .eql m (I 65) λJ=>Vif J (KS [f,e,c,k,m]<|J54 J u) (Bp .eql m (I 70) λd7=>KS [f,e,c,k,m]<|J54 d7 u)))
theorem Tz190 (h:Vz190 prog a0 w R):Cl prog 190 #[a0] w R:=
 tz 66 [(.cell 2 192),(.tmp 3)] (s z (s z (s z (j [5] [2,4] (s z (b (j [15] [1,2,4,5,14] (s z (i z z)) (i (s z z) (s z (i z (s z (i z (j [40] [1,2,4,5] (s z (i z z)) (i (j [5] [1,2,4] z (s z (i z z))) z)))))))))) (s (s z (i (s z z) z)) (s z z)))))) [a0] func190 h
def Vz191:VT1:=λP g w R=>
 New (zeroP P 279) 279 w λe k=>VLoop 1 [(I 0)] k λ_ m c f=>Bv .lss c (I 4) (Bp .sub (I 3) c λp=>Bp .mul (I 8) p λq=>Bp .shr g q λt=>Ci .u8 t λu=>Iaa 4 1 e c λv=>St v u f λy=>Bp .add c (I 1) λC=>KS [g,e]<|m C y) (Sl P 279 e none none none f λD=>Cw P 79 9 D f λE F=>R E F)
theorem Tz191 (h:Vz191 prog a0 w R):Cl prog 191 #[a0] w R:=
 tz 19 [(.tmp 2)] (s z (s z (s (s z (b (l [5] [0,3] (s z (s (i z z) (s (b (s z z)) z)))))) (s z z)))) [a0] func191 h
def Vz192:VT1:=λP c w R=>
 Nc c<|Fo 0 c λe=>Ld e w λf=>Bn P 86 false f (.pointer none) λg=>Vif g (Cw P 84 280 c w λk m=>Cx P 215 #[k] m λp q=>Cw P 280 84 p q λt u=>Nc c<|Fo 0 c λv=>St v t u λy=>R (.tuple #[]) y) (Nc c<|Fo 0 c λC=>Ld C w λD=>Bn P 86 true D c λE=>Vif E (False) (R (.tuple #[]) w))
theorem Tz192 (h:Vz192 prog a0 w R):Cl prog 192 #[a0] w R:=
 tz 20 [] (s z (i z (s z (i z z)))) [a0] func192 h
def Vz193:VT2:=λP c f w R=>
 Cl P 146 #[c,f] w λk t=>Bv .eql k (I (-1)) (R c t) (Bp .add k (I 1) λy=>VLoop 2 [k,y] t λ_ u e g m=>Lnl c λC=>Bp .lss g C λD=>Vif D (Ias 5 c g λE=>LdA 5 E m λF=>New (zeroP P 178) 178 m λp G=>StA 5 p F G λv=>LdA 5 p v λJ=>Inv P (do let d <-Deferred.ofValue f #[J];invoke d.target d.args) v λL q=>Up .not L λM=>Vif M (LdA 5 p q λN=>Ias 5 c e λO=>StA 5 O N q λQ=>Bp .add e (I 1) λS=>Bp .add g (I 1) λU=>KS [c,f]<|u S U Q) (Bp .add g (I 1) λW=>KS [c,f]<|u e W q)) (Ssl 5 c (some e) none λY=>Bclr P #[126] 0 #[Y] m λ_ Z=>Ssl 5 c none (some e) λa0=>R a0 Z))
theorem Tz193 (h:Vz193 prog a0 a1 w R):Cl prog 193 #[a0,a1] w R:=
 tz 42 [(.tmp 4)] (s z (s z (s (s z (i (s z z) z)) (s (s z (b (l [5,6] [0,1] (s (s z (i z z)) (s (b (s z (s z (i (s z z) z)))) z))))) (s z (s z z)))))) [a0,a1] func193 h
def Vz194:VT1:=λP c w R=>
 Be P .eql 126 (.tmp 3) (.const (.slice none 0 0)) c (.slice none 0 0) w λe=>Vif e (R (.slice none 0 0) w) (Bs P 126 0 #[] w λf g=>Ap P #[126,126] 126 #[f,c] g λk m=>R k m)
theorem Tz194 (h:Vz194 prog a0 w R):Cl prog 194 #[a0] w R:=
 tz 8 [(.tmp 2)] (s z (s (s z (i (s z z) z)) (s z z))) [a0] func194 h
def Vz195:VT2:=λP e f w R=>
 New e 178 w λg c=>Fo 4 g λk=>Ld k c λm=>Ld f c λp=>Bp .eql m p λq=>R q c
theorem Tz195 (h:Vz195 prog a0 a1 w R):Cl prog 195 #[a0,a1] w R:=
 tz 8 [(.tmp 3)] (s z (s z z)) [a0,a1] func195 h
def Vz196:VT2:=λP e g w R=>
 Lnl e λk=>VLoop 1 [(I 0)] w λ_ p c f=>Bv .lss c k (Ias 1 e c λq=>Ld q f λt=>Inv P (do let d <-Deferred.ofValue g #[t];invoke d.target d.args) f λu m=>Vif u (R c m) (Bp .add c (I 1) λv=>KS [e,g,k]<|p v m)) (R (I (-1)) f)
theorem Tz196 (h:Vz196 prog a0 a1 w R):Cl prog 196 #[a0,a1] w R:=
 tz 19 [(.tmp 4)] (s z (s (s z (b (l [8] [0,1,7] (s z (s (i z z) (s (b (s z (s z (i (s z z) z)))) z)))))) (s z z))) [a0,a1] func196 h
def Vz197:VT2:=λP e f w R=>
 Dr w λc=>Nc e<|Fo 0 e λg=>Ld g c λk=>Ld f c λm=>Cl P 198 #[k,m] c λp q=>R p q
theorem Tz197 (h:Vz197 prog a0 a1 w R):Cl prog 197 #[a0,a1] w R:=
 tz 10 [(.tmp 3)] (s z (s (r (.staged [0,1,3,7,0,31,63])) z)) [a0,a1] func197 h
def Vz198:VT2:=λP c e w R=>
 Bn P 224 true c (.pointer none) λf=>Vif f (Nc c<|Fo 1 c λg=>Ld g w λk=>Cl P 216 #[k,e] w λm p=>R m p) (R (.bool false) w)
theorem Tz198 (h:Vz198 prog a0 a1 w R):Cl prog 198 #[a0,a1] w R:=
 tz 15 [(.tmp 4)] (s z (s z z)) [a0,a1] func198 h
def Vz199:VT1:=λP c w R=>
 Rg P 9 c w λf q=>VLoop 0 [] q λ_ t u=>Nx P f true 0 u λe g=>Ex e 0 λv=>Vif v (Ex e 1 λk=>Ex e 2 λy=>Cl P 217 #[c,k,y] g λm C=>Cl P 218 #[m] C λD p=>Up .not D λE=>Vif E (R (.tuple #[m,k]) p) (KS [c,f]<|t p)) (R (.tuple #[(I 0),(I (-1))]) g)
theorem Tz199 (h:Vz199 prog a0 w R):Cl prog 199 #[a0] w R:=
 tz 22 [(.tmp 2),(.tmp 3)] (s z (s (s z (b (l [] [0,8] (s z (s (i z z) (b (s z (s z (s z (i (s z z) z)))))))))) (s z z))) [a0] func199 h
def Vz200:VT1:=λP g w R=>
 Rg P 9 g w λc k=>VLoop 1 [(I 0)] k λ_ m e p=>Nx P c true 0 p λq f=>Ex q 0 λt=>Vif t (Bp .add e (I 1) λu=>KS [c]<|m u f) (R e f)
theorem Tz200 (h:Vz200 prog a0 w R):Cl prog 200 #[a0] w R:=
 tz 11 [(.tmp 2)] (s z (s z (s (s z (b (l [3] [5] (s z (s (i z z) (b z)))))) (s z z)))) [a0] func200 h
def Vz201:VT1:=λP f w R=>
 New f 41 w λe c=>Fo 0 e λg=>Ld g c λk=>Bv .geq k (I 1) (Fo 0 e λm=>Ld m c λp=>Bp .leq p (I 7) λq=>R q c) (R (.bool false) c)
theorem Tz201 (h:Vz201 prog a0 w R):Cl prog 201 #[a0] w R:=
 tz 11 [(.tmp 2)] (s z (s z z)) [a0] func201 h
def Vz202:VT1:=λP f w R=>
 New f 41 w λe c=>Fo 0 e λg=>Ld g c λk=>Bv .geq k (I 65) (Fo 0 e λm=>Ld m c λp=>Bp .leq p (I 70) λq=>R q c) (R (.bool false) c)
theorem Tz202 (h:Vz202 prog a0 w R):Cl prog 202 #[a0] w R:=
 tz 11 [(.tmp 2)] (s z (s z z)) [a0] func202 h
def Vz203:VT2:=λP c e w R=>
 Lns c λp=>Lns e λq=>Bmin P #[3,3] 3 #[p,q] w λk=>VLoop 2 [(.int .u8 0),(I 0)] w λ_ t m f g=>Bv .lss f k (Dr g λu=>Ixs c f λv=>Ixs e f λy=>Bp .xor v y λC=>Bp .or m C λD=>Bp .add f (I 1) λE=>KS [c,e,k]<|t D E u) (Bp .eql m (.int .u8 0) λF=>Vif F (Lns c λG=>Lns e λJ=>Bp .eql G J λL=>R L g) (R (.bool false) g))
theorem Tz203 (h:Vz203 prog a0 a1 w R):Cl prog 203 #[a0,a1] w R:=
 tz 34 [(.tmp 4)] (s z (s z (s (s z (b (l [5,12] [0,1,11] (s z (s (i z z) (s (b (s z (r (.staged [0,0,0,6,0,0,48,126,255,511])))) z)))))) (s z z)))) [a0,a1] func203 h
def Vz204:VT1:=λP c w R=>
 Bv .lss c (I 10) (Bmax P #[3,3] 3 #[c,(I 0)] w λu=>Bp .add (I 48) u λv=>Ci .u8 v λy=>Bs P 79 1 #[(0,y)] w λC D=>Cw P 79 9 C D λE F=>R E F) (Dr w λe=>Bp .quo c (I 10) λf=>Bp .rem c (I 10) λG=>Bp .add (I 48) G λJ=>Ci .u8 J λg=>(Cl P 204 #[f] e λL M=>Bs P 79 1 #[(0,g)] M λN k=>Cv P 79 9 N k λO=>Bp .add L O λQ=>R Q k)/\(Bs P 79 1 #[(0,g)] e λm p=>Cv P 79 9 m p λq=>Cl P 204 #[f] p λS t=>Rk (λw K=>Cv P 79 9 m w λU=>K U) q t<|Bp .add S q λW=>R W t))
theorem Tz204 (h:Vz204 prog a0 w R):Cl prog 204 #[a0] w R:=
 tz 21 [(.tmp 2)] (s z (s (s z (i (s z z) z)) (s (r (.tree [0,1,3,0,8,24,56,120,248,511,1023] (.op 0 (.op 1 (.op 3 (.op 4 (.op 5 (.op 6 (.fk (.op 2 (.op 7 (.op 8 (.op 9 (.op 10 .dn))))) (.op 7 (.op 8 (.op 2 (.op 9 (.op 10 .dn)))))))))))))) z))) [a0] func204 h
def Vz206:VT1:=λP e w R=>
 New e 134 w λf c=>Fo 0 f λg=>Ld g c λk=>R k c
theorem Tz206 (h:Vz206 prog a0 w R):Cl prog 206 #[a0] w R:=
 tz 5 [(.tmp 2)] (s z (s z z)) [a0] func206 h
def Vz207:VT3:=λP m p c w R=>
 Cl P 220 #[m,p] w λf g=>Ex f 0 λe=>Ex f 1 λq=>VJoin 1 (λ_ t k=>Vif t (R (.tuple #[(I 0),(I 1)]) k) (Bp .mul (I 8) e λu=>Bp .add c u λv=>Cl P 222 #[e] k λy C=>Bp .add v y λD=>Bp .add D (I 1024) λE=>R (.tuple #[E,(I 0)]) C)) (λJ10=>Bp .neq q (I 0) λF=>Vif F (KS [c,e]<|J10 (.bool true) g) (Cl P 221 #[c] g λG J=>Up .not G λL=>KS [c,e]<|J10 L J))
theorem Tz207 (h:Vz207 prog a0 a1 a2 w R):Cl prog 207 #[a0,a1,a2] w R:=
 tz 31 [(.tmp 6),(.tmp 7)] (s z (s z (s (j [22] [2,8] z (i (s z z) z)) (s z z)))) [a0,a1,a2] func207 h
def Vz208:VT3:=λP c e f w R=>
 Cl P 223 #[c] w λg k=>Ex g 0 λG=>Ex g 1 λp=>VJoin 1 (λ_ q m=>Vif q (R (.tuple #[(I 0),(I 1)]) m) (Bp .add e f λt=>Bp .mul (I 36) c λu=>Bp .add t u λv=>Bp .add v (I 40960) λy=>R (.tuple #[y,(I 0)]) m)) (λJ9=>Bp .neq p (I 0) λC=>Vif C (KS [c,e,f]<|J9 (.bool true) k) (Cl P 224 #[e,f] k λD E=>Up .not D λF=>KS [c,e,f]<|J9 F E))
theorem Tz208 (h:Vz208 prog a0 a1 a2 w R):Cl prog 208 #[a0,a1,a2] w R:=
 tz 30 [(.tmp 6),(.tmp 7)] (s z (s (s z (j [22] [0,1,2] z (i (s z z) z))) (s z z))) [a0,a1,a2] func208 h
def Vz209:VT2:=λP g k w R=>
 Cl P 208 #[g,k,(I 4096)] w λc e=>Ex c 0 λm=>Ex c 1 λf=>Bv .neq f (I 0) (R (.tuple #[(I 0),f]) e) (Bp .add m (I 32) λp=>R (.tuple #[p,(I 0)]) e)
theorem Tz209 (h:Vz209 prog a0 a1 w R):Cl prog 209 #[a0,a1] w R:=
 tz 19 [(.tmp 4),(.tmp 5)] (s z (s z (s (s z (i (s z z) z)) (s z z)))) [a0,a1] func209 h
def Vz210:VT1:=λP c w R=>
 Cl P 142 #[c] w λe f=>Lnl e λg=>R g f
theorem Tz210 (h:Vz210 prog a0 w R):Cl prog 210 #[a0] w R:=
 tz 6 [(.tmp 2)] (s z (s z z)) [a0] func210 h
def Vz211:VT3:=λP p q f w R=>
 Cl P 141 #[p,q] w λc m=>Bn P 132 false p (.pointer none) λt=>Vif t (R (I 7) m) (Bn P 134 false c (.pointer none) λu=>Vif u (R (I 6) m) (Cl P 68 #[f] m λv g=>Up .not v λy=>Vif y (R (I 1) g) (Nc c<|Fo 0 c λC=>Ld C g λD=>Bv .gtr f D (R (I 33) g) (Dr g λe=>Nc c<|Fo 0 c λE=>Ld E e λF=>Nc c<|Fo 1 c λG=>Ld G e λJ=>Bp .sub F J λL=>Bp .gtr f L λM=>Vif M (R (I 34) e) (Nc c<|Fo 1 c λN=>Ld N e λO=>Bp .add O f λQ=>Nc c<|Fo 1 c λS=>St S Q e λU=>Dr U λk=>Nc c<|Fo 2 c λW=>Ld W k λY=>Nc c<|Fo 1 c λZ=>Ld Z k λa0=>Bmax P #[3,3] 3 #[Y,a0] k λa1=>Nc c<|Fo 2 c λa2=>St a2 a1 k λa3=>R (I 0) a3)))))
theorem Tz211 (h:Vz211 prog a0 a1 a2 w R):Cl prog 211 #[a0,a1,a2] w R:=
 tz 60 [(.tmp 6)] (s z (s z (s (b (s z (i (s z z) (s z (i (s z z) (s z (i (s z z) (s z (i (s z z) (s (r (.staged [0,0,2,6,14,0,32,96,224,510,1023,2047])) (i (s z z) z))))))))))) (s z (s (r (.staged [0,0,2,6,14,0,32,96,224,510,1023,2047,4095])) (s z z)))))) [a0,a1,a2] func211 h
def Vz212:VT4:=λP c p e f w R=>
 Bv .eql c (I 1) (Cl P 225 #[p,e,f] w λg q=>Ex g 0 λt=>Ex g 1 λu=>R (.tuple #[(.iface 287 t),u]) q) (Bv .eql c (I 2) (Cl P 226 #[e,f,(I 4096)] w λk v=>Ex k 0 λy=>Ex k 1 λC=>R (.tuple #[(.iface 290 y),C]) v) (Bv .eql c (I 3) (Cl P 227 #[e,f] w λm D=>Ex m 0 λE=>Ex m 1 λF=>R (.tuple #[(.iface 293 E),F]) D) (R (.tuple #[.nilIface,(I 1)]) w)))
theorem Tz212 (h:Vz212 prog a0 a1 a2 a3 w R):Cl prog 212 #[a0,a1,a2,a3] w R:=
 tz 51 [(.tmp 8),(.tmp 9)] (s z (s (s z (b (s z (i (s z (s z z)) (s z (i (s z (s z z)) (s z (i (s z (s z z)) z)))))))) (s z z))) [a0,a1,a2,a3] func212 h
def Vz213:VT3:=λP f g k w R=>
 New f 178 w λe c=>Fo 0 e λm=>Fo 0 m λp=>Ld p c λq=>Ld g c λt=>Bv .eql q t (Fo 0 e λu=>Fo 1 u λv=>Ld v c λy=>Ld k c λC=>Bp .eql y C λD=>R D c) (R (.bool false) c)
theorem Tz213 (h:Vz213 prog a0 a1 a2 w R):Cl prog 213 #[a0,a1,a2] w R:=
 tz 17 [(.tmp 4)] (s z (s z z)) [a0,a1,a2] func213 h
def Vz214:VT2:=λP f e w R=>
 New (zeroP P 222) 222 w λc t=>Ixs f (I 0) λL=>Ci .i64 L λu=>VJoin 1 (λ_ v y=>VJoin 2 (λ_ C M D=>VJoin 2 (λ_ N E O=>VLoop 2 [N,(I 1)] O λ_ Q g m k=>Bv .lss m e (Cl P 228 #[f,m] k λS q=>Up .not S λU=>Vif U (Bd P 222 #[] q λW=>StA 2 c W q λF=>LdA 2 c F λY=>R Y F) (Bp .mul (I 64) g λZ=>Ixs f m λa0=>Ci .i64 a0 λa1=>Bp .add Z a1 λa2=>Bp .sub a2 (I 128) λa3=>Bp .add m (I 1) λa4=>KS [f,e,c,E]<|Q a3 a4 q)) (VJoin 1 (λ_ a5 p=>Vif a5 (Bd P 222 #[] p λa6=>StA 2 c a6 p λG=>LdA 2 c G λa7=>R a7 G) (Bd P 222 #[(0,g),(1,e)] p λa8=>StA 2 c a8 p λJ=>LdA 2 c J λa9=>R a9 J)) (λJ28=>Bp .lss g E λb0=>Vif b0 (KS [e,c,g]<|J28 (.bool true) k) (Bv .gtr g (I 1114111) (KS [e,c,g]<|J28 (.bool true) k) (Bv .geq g (I 55296) (Bp .leq g (I 57343) λb1=>KS [e,c,g]<|J28 b1 k) (KS [e,c,g]<|J28 (.bool false) k)))))) (λJ33=>Bp .eql e (I 4) λb2=>Vif b2 (Bp .sub C (I 240) λb3=>KS [f,e,c]<|J33 b3 (I 65536) D) (KS [f,e,c]<|J33 C M D))) (λJ36=>Bp .eql e (I 3) λb4=>Vif b4 (Bp .sub v (I 224) λb5=>KS [f,e,c]<|J36 b5 (I 2048) y) (KS [f,e,c]<|J36 v (I 128) y))) (λJ39=>Bp .eql e (I 2) λb6=>Vif b6 (Bp .sub u (I 192) λb7=>KS [f,e,c,(I 128)]<|J39 b7 t) (KS [f,e,c,(I 128)]<|J39 u t))
theorem Tz214 (h:Vz214 prog a0 a1 w R):Cl prog 214 #[a0,a1] w R:=
 tz 60 [(.cell 4 222)] (s z (s z (s z (j [5] [0,1,4,6] (s z (i z z)) (j [5,6] [0,1,4] (s z (i (s z z) z)) (j [5,6] [0,1,4] (s z (i (s z z) z)) (s (s z (b (l [5,7] [0,1,4,6] (s (s z (i z z)) (s (b (s (s z (i (s z z) z)) z)) z))))) (s (j [55] [1,4,5] z (i (s z z) z)) (s z z))))))))) [a0,a1] func214 h
def Vz216:VT2:=λP c e w R=>
 Cl P 187 #[c,e] w λf g=>Bp .geq f (I 0) λk=>R k g
theorem Tz216 (h:Vz216 prog a0 a1 w R):Cl prog 216 #[a0,a1] w R:=
 tz 9 [(.tmp 4)] (s z (s z z)) [a0,a1] func216 h
def Vz217:VT3:=λP g k c w R=>
 Bv .eql c (.int .i32 65533) (Sst g (some k) none λm=>Cl P 229 #[m] w λe f=>Ex e 0 λu=>Ex e 1 λp=>Bv .eql p (I 1) (R (I (-1)) f) (Ci .i64 c λq=>R q f)) (Ci .i64 c λt=>R t w)
theorem Tz217 (h:Vz217 prog a0 a1 a2 w R):Cl prog 217 #[a0,a1,a2] w R:=
 tz 22 [(.tmp 6)] (s z (s (s z (i (s z (s z (i (s z z) z))) z)) (s z z))) [a0,a1,a2] func217 h
def Vz218:VT1:=λP c w R=>
 Bv .gtr c (I 32) (Bv .lss c (I 127) (Bv .neq c (I 58) (Bp .neq c (I 35) λe=>R e w) (R (.bool false) w)) (Bp .gtr c (I 160) λf=>Vif f (Bv .neq c (I 58) (Bp .neq c (I 35) λg=>R g w) (R (.bool false) w)) (R (.bool false) w))) (R (.bool false) w)
theorem Tz218 (h:Vz218 prog a0 w R):Cl prog 218 #[a0] w R:=
 tz 21 [(.tmp 2)] (s z (s z z)) [a0] func218 h
def Vz220:VT2:=λP c e w R=>
 VJoin 1 (λ_ g f=>Vif g (R (.tuple #[(I 0),(I 1)]) f) (Bp .mul c e λk=>Bp .sub k (I 19) λm=>R (.tuple #[m,(I 0)]) f)) (λJ4=>Bp .lss c (I 1) λp=>Vif p (KS [c,e]<|J4 (.bool true) w) (Bv .gtr c (I 9) (KS [c,e]<|J4 (.bool true) w) (Bv .lss e (I 24) (KS [c,e]<|J4 (.bool true) w) (Bp .gtr e (I 100000) λq=>KS [c,e]<|J4 q w))))
theorem Tz220 (h:Vz220 prog a0 a1 w R):Cl prog 220 #[a0,a1] w R:=
 tz 24 [(.tmp 4),(.tmp 5)] (s z (s (j [19] [0,1] z (i (s z z) z)) (s z z))) [a0,a1] func220 h
def Vz221:VT1:=λP c w R=>
 Bv .geq c (I 64) (Bp .leq c (I 1048576) λe=>R e w) (R (.bool false) w)
theorem Tz221 (h:Vz221 prog a0 w R):Cl prog 221 #[a0] w R:=
 tz 9 [(.tmp 2)] (s z (s z z)) [a0] func221 h
def Vz222:VT1:=λP c w R=>
 VJoin 1 (λ_ f e=>Vif f (R (I 0) e) (Bp .mul (I 3) c λg=>Bp .add (I 12000) g λk=>R k e)) (λJ4=>Bp .lss c (I 5) λm=>Vif m (KS [c]<|J4 (.bool true) w) (Bp .gtr c (I 900000) λp=>KS [c]<|J4 p w))
theorem Tz222 (h:Vz222 prog a0 w R):Cl prog 222 #[a0] w R:=
 tz 12 [(.tmp 2)] (s z (s (j [8] [0] z (i (s z z) z)) (s z z))) [a0] func222 h
def Vz223:VT1:=λP e w R=>
 Cl P 220 #[(I 1),e] w λf c=>Ex f 0 λq=>Ex f 1 λg=>Bv .neq g (I 0) (R (.tuple #[(.pointer none),g]) c) (Bd P 305 #[(0,e)] c λk=>New k 305 c λm p=>R (.tuple #[m,(I 0)]) p)
theorem Tz223 (h:Vz223 prog a0 w R):Cl prog 223 #[a0] w R:=
 tz 17 [(.tmp 2),(.tmp 3)] (s z (s (s z (s z (i (s z z) z))) (s z z))) [a0] func223 h
def Vz224:VT2:=λP c e w R=>
 Bv .geq c (I 64) (Bv .leq c (I 1048576) (Bv .geq e (I 1) (Bp .leq e (I 65536) λf=>R f w) (R (.bool false) w)) (R (.bool false) w)) (R (.bool false) w)
theorem Tz224 (h:Vz224 prog a0 a1 w R):Cl prog 224 #[a0,a1] w R:=
 tz 19 [(.tmp 4)] (s z (s z z)) [a0,a1] func224 h
def Vz225:VT3:=λP c v e w R=>
 Cl P 220 #[c,v] w λg k=>Ex g 0 λf=>Ex g 1 λy=>VJoin 1 (λ_ C m=>Vif C (R (.tuple #[(.pointer none),(I 1)]) m) (Cl P 231 #[f] m λp D=>Ex p 0 λE=>Ex p 1 λS=>Cl P 232 #[c] D λq F=>Ex q 0 λt=>Ex q 1 λU=>Cl P 233 #[t] F λG u=>Bd P 315 #[(0,e),(3,E),(8,t),(9,G)] u λJ=>New J 315 u λL M=>R (.tuple #[L,(I 0)]) M)) (λJ14=>Bv .neq y (I 0) (KS [c,e,f]<|J14 (.bool true) k) (Cl P 221 #[e] k λN O=>Up .not N λQ=>KS [c,e,f]<|J14 Q O))
theorem Tz225 (h:Vz225 prog a0 a1 a2 w R):Cl prog 225 #[a0,a1,a2] w R:=
 tz 44 [(.tmp 6),(.tmp 7)] (s z (s z (s (j [26] [0,2,8] z (i (s z z) z)) (s z (s z (s z z)))))) [a0,a1,a2] func225 h
def Vz226:VT3:=λP q c e w R=>
 Cl P 223 #[q] w λg k=>Ex g 0 λf=>Ex g 1 λt=>VJoin 1 (λ_ u m=>Vif u (R (.tuple #[(.pointer none),(I 1)]) m) (Cl P 234 #[(.string ⟨#[]⟩)] m λv p=>Bd P 320 #[(0,c),(1,e),(3,v),(4,f)] p λy=>New y 320 p λC D=>R (.tuple #[C,(I 0)]) D)) (λJ8=>Bv .neq t (I 0) (KS [c,e,f]<|J8 (.bool true) k) (Cl P 224 #[c,e] k λE F=>Up .not E λG=>KS [c,e,f]<|J8 G F))
theorem Tz226 (h:Vz226 prog a0 a1 a2 w R):Cl prog 226 #[a0,a1,a2] w R:=
 tz 29 [(.tmp 6),(.tmp 7)] (s z (s z (s (j [22] [1,2,8] z (i (s z z) z)) (s z z)))) [a0,a1,a2] func226 h
def Vz227:VT2:=λP g k w R=>
 Cl P 226 #[g,k,(I 4096)] w λe c=>Ex e 0 λm=>Ex e 1 λf=>Bv .neq f (I 0) (R (.tuple #[(.pointer none),f]) c) (Bd P 322 #[(0,m)] c λp=>Bd P 324 #[(0,p)] c λq=>New q 324 c λt u=>R (.tuple #[t,(I 0)]) u)
theorem Tz227 (h:Vz227 prog a0 a1 w R):Cl prog 227 #[a0,a1] w R:=
 tz 21 [(.tmp 4),(.tmp 5)] (s z (s z (s (s z (i (s z z) z)) (s z z)))) [a0,a1] func227 h
def Vz228:VT2:=λP c e w R=>
 Lns c λf=>Bv .lss e f (Ixs c e λg=>Bv .geq g (.int .u8 128) (Ixs c e λk=>Bp .lss k (.int .u8 192) λm=>R m w) (R (.bool false) w)) (R (.bool false) w)
theorem Tz228 (h:Vz228 prog a0 a1 w R):Cl prog 228 #[a0,a1] w R:=
 tz 21 [(.tmp 4)] (s z (s z z)) [a0,a1] func228 h
def Vz231:VT1:=λP c w R=>
 VJoin 1 (λ_ k e=>Vif k (R (.tuple #[(.pointer none),(I 1)]) e) (Cl P 237 #[] e λm f=>Bd P 329 #[(1,m)] f λp=>Cl P 238 #[] f λq g=>Bd P 333 #[(0,p),(1,c),(2,q)] g λt=>New t 333 g λu v=>R (.tuple #[u,(I 0)]) v)) (λJ7=>Bv .lss c (I 5) (KS [c]<|J7 (.bool true) w) (Bp .gtr c (I 900000) λy=>KS [c]<|J7 y w))
theorem Tz231 (h:Vz231 prog a0 w R):Cl prog 231 #[a0] w R:=
 tz 16 [(.tmp 2),(.tmp 3)] (s z (s (j [9] [0] z (i (s z z) z)) (s z z))) [a0] func231 h
def Vz232:VT1:=λP c w R=>
 VJoin 1 (λ_ q k=>Vif q (R (.tuple #[(.pointer none),(I 1)]) k) (Cl P 239 #[] k λt m=>Bd P 337 #[(0,t)] m λu=>New u 337 m λe v=>VLoop 1 [(I 0)] v λ_ y f g=>Bv .lss f (I 3) (Dr g λp=>Nc e<|Fo 0 e λC=>Ld C p λD=>Ixs (.string ⟨#[66,90,104]⟩) f λE=>Ci .u32 E λF=>Cl P 240 #[D,F,(I 8)] p λW G=>Bp .add f (I 1) λJ=>KS [c,e]<|y J G) (Nc e<|Fo 0 e λL=>Ld L g λM=>Bp .add (I 48) c λN=>Ci .u32 N λO=>Cl P 240 #[M,O,(I 8)] g λY Q=>R (.tuple #[e,(I 0)]) Q))) (λJ20=>Bp .lss c (I 1) λS=>Vif S (KS [c]<|J20 (.bool true) w) (Bp .gtr c (I 9) λU=>KS [c]<|J20 U w))
theorem Tz232 (h:Vz232 prog a0 w R):Cl prog 232 #[a0] w R:=
 tz 36 [(.tmp 2),(.tmp 3)] (s z (s (j [11] [0] z (i (s z z) z)) (s z (s (s z (b (l [15] [0,4] (s z (s (i z z) (s (b (s z (r (.staged [0,1,3,7,0,16,48,127])))) z)))))) (s z (s z z)))))) [a0] func232 h
def Vz233:VT1:=λP c w R=>
 Bn P 337 false c (.pointer none) λe=>Vif e (R (.string ⟨#[]⟩) w) (Nc c<|Fo 0 c λf=>Ld f w λg=>Cl P 241 #[g] w λk m=>R k m)
theorem Tz233 (h:Vz233 prog a0 w R):Cl prog 233 #[a0] w R:=
 tz 10 [(.tmp 2)] (s z (s (s z (i (s z z) z)) (s z z))) [a0] func233 h
def Vz234:VT1:=λP c w R=>
 Bd P 340 #[(0,c)] w λe=>New e 340 w λf g=>R f g
theorem Tz234 (h:Vz234 prog a0 w R):Cl prog 234 #[a0] w R:=
 tz 6 [(.tmp 2)] (s z (s z z)) [a0] func234 h
def Vz237:VT0:=λP w R=>
 Cl P 242 #[] w λe c=>Bd P 348 #[(0,e),(1,(.int .u32 4294967295))] c λf=>New f 348 c λg k=>R g k
theorem Tz237 (h:Vz237 prog w R):Cl prog 237 #[] w R:=
 tz 4 [(.tmp 0)] (s z (s z z)) [] func237 h
def Vz238:VT0:=λP w R=>
 Bd P 352 #[] w λc=>New c 352 w λe f=>R e f
theorem Tz238 (h:Vz238 prog w R):Cl prog 238 #[] w R:=
 tz 3 [(.tmp 0)] (s z (s z z)) [] func238 h
def Vz239:VT0:=λP w R=>
 Bd P 354 #[] w λc=>New c 354 w λe f=>R e f
theorem Tz239 (h:Vz239 prog w R):Cl prog 239 #[] w R:=
 tz 3 [(.tmp 0)] (s z (s z z)) [] func239 h
def Vz240:VT3:=λP e f c w R=>
 Bn P 354 false e (.pointer none) λp=>Vif p (R (I 7) w) (Cl P 243 #[f,c] w λq k=>Up .not q λt=>Vif t (R (I 1) k) (VLoop 1 [(I 0)] k λ_ u g m=>Bv .lss g c (Bp .sub c (I 1) λv=>Bp .sub v g λy=>Bp .shr f y λC=>Bp .and C (.int .u32 1) λD=>Ci .u8 D λE=>Cl P 244 #[e,E] m λJ F=>Bp .add g (I 1) λG=>KS [e,f,c,c]<|u G F) (R (I 0) m)))
theorem Tz240 (h:Vz240 prog a0 a1 a2 w R):Cl prog 240 #[a0,a1,a2] w R:=
 tz 31 [(.tmp 6)] (s z (s (b (s z (i (s z z) (s z (i (s z z) z))))) (s (s z (b (l [17] [0,1,2,16] (s z (s (i z z) (s (b (s z z)) z)))))) (s z z)))) [a0,a1,a2] func240 h
def Vz241:VT1:=λP c w R=>
 Bn P 354 false c (.pointer none) λe=>Vif e (R (.string ⟨#[]⟩) w) (Nc c<|Fo 0 c λf=>Ld f w λg=>Cw P 79 9 g w λk m=>Nc c<|Fo 0 c λp=>St p (.slice none 0 0) m λq=>R k q)
theorem Tz241 (h:Vz241 prog a0 w R):Cl prog 241 #[a0] w R:=
 tz 15 [(.tmp 2)] (s z (s (s z (i (s z z) z)) (s z (s z (s z z))))) [a0] func241 h
def Vz242:VT0:=λP w R=>
 New (zeroP P 345) 345 w λe t=>New (zeroP P 345) 345 t λf u=>VLoop 1 [(I 0)] u λ_ v c g=>Bv .lss c (I 256) (Ci .u32 c λy=>Bp .shl y (.int .u64 24) λC=>VLoop 2 [C,(I 0)] g λ_ D k m p=>Bp .lss m (I 8) λE=>Vif E (Bp .shr k (.int .u64 31) λF=>Bp .shl k (.int .u64 1) λG=>Bp .mul F (.int .u32 79764919) λJ=>Bp .xor G J λL=>Bp .add m (I 1) λM=>KS [e,f,c,c]<|D L M p) (Iaa 256 1 f c λN=>St N k p λO=>Bp .add c (I 1) λQ=>KS [e,f]<|v Q O)) (LdA 256 f g λS=>StA 256 e S g λq=>LdA 256 e q λU=>R U q)
theorem Tz242 (h:Vz242 prog w R):Cl prog 242 #[] w R:=
 tz 26 [(.cell 0 345)] (s z (s z (s (s z (b (l [5] [0,1] (s z (s (i z z) (s (b (s z (s z (s (s z (b (l [3,11] [0,1,2,5] (s z (s (i z z) (s (b (s z z)) z)))))) z)))) z)))))) (s z z)))) [] func242 h
def Vz243:VT2:=λP e c w R=>
 Bv .geq c (I 0) (Bv .leq c (I 32) (Ci .u64 e λf=>Bp .shr f c λg=>Bp .eql g (.int .u64 0) λk=>R k w) (R (.bool false) w)) (R (.bool false) w)
theorem Tz243 (h:Vz243 prog a0 a1 w R):Cl prog 243 #[a0,a1] w R:=
 tz 18 [(.tmp 4)] (s z (s z z)) [a0,a1] func243 h
def Vz244:VT2:=λP c u w R=>
 Nc c<|Fo 2 c λv=>Ld v w λy=>Bp .rem y (I 8) λf=>Dr w λg=>Nc c<|Fo 1 c λC=>Ld C g λD=>Bp .sub (I 7) f λE=>Bp .shl u E λF=>Bp .or D F λG=>Nc c<|Fo 1 c λJ=>St J G g λk=>Nc c<|Fo 2 c λL=>Ld L k λM=>Bp .add M (I 1) λN=>Nc c<|Fo 2 c λO=>St O N k λm=>Bp .eql f (I 7) λQ=>Vif Q (Dr m λe=>Nc c<|Fo 0 c λp=>Ld p e λq=>Nc c<|Fo 1 c λS=>Ld S e λU=>Bs P 79 1 #[(0,U)] e λW t=>Rk (λw K=>Ld p w λY=>K Y) q t<|Ap P #[79,79] 79 #[q,W] t λZ a0=>Nc c<|Fo 0 c λa1=>St a1 Z a0 λa2=>Nc c<|Fo 1 c λa3=>St a3 (.int .u8 0) a2 λa4=>R (.tuple #[]) a4) (R (.tuple #[]) m)
theorem Tz244 (h:Vz244 prog a0 a1 w R):Cl prog 244 #[a0,a1] w R:=
 tz 46 [] (s z (s (r (.staged [0,1,3,7,0,0,32,112,255,511,1023,2047])) (s z (s z (i (s (r (.staged [0,0,2,6,14,0,32,96,224,480,1022,2047,4095,8191])) z) z))))) [a0,a1] func244 h
def Vz341:VT1:=λP c w R=>
 Bn P 315 true c (.pointer none) λe=>Vif e (Nc c<|Fo 10 c λf=>Ld f w λg=>R g w) (R (.bool false) w)
theorem Tz341 (h:Vz341 prog a0 w R):Cl prog 341 #[a0] w R:=
 tz 11 [(.tmp 2)] (s z (s z z)) [a0] func341 h
def Vz342:VT1:=λP c w R=>
 VJoin 1 (λ_ f e=>Vif f (R (I 7) e) (Nc c<|Fo 2 c λg=>St g (.bool true) e λk=>Cl P 350 #[c] k λu m=>R (I 0) m)) (λJ4=>Bn P 315 false c (.pointer none) λp=>Vif p (KS [c]<|J4 (.bool true) w) (Nc c<|Fo 2 c λq=>Ld q w λt=>KS [c]<|J4 t w))
theorem Tz342 (h:Vz342 prog a0 w R):Cl prog 342 #[a0] w R:=
 tz 16 [(.tmp 2)] (s z (s (j [10] [0] z (i (s z z) z)) (s z (s z (s z z))))) [a0] func342 h
def Vz343:VT2:=λP c e w R=>
 VJoin 1 (λ_ p g=>Vif p (R (I 0) g) (Dr g λf=>Lns e λq=>Nc c<|Fo 0 c λt=>Ld t f λu=>Nc c<|Fo 1 c λv=>Ld v f λy=>Lns y λC=>Bp .sub u C λD=>Bmin P #[3,3] 3 #[q,D] f λk=>Dr f λm=>Nc c<|Fo 1 c λE=>Ld E m λF=>Sst e none (some k) λG=>Bp .add F G λJ=>Nc c<|Fo 1 c λL=>St L J m λM=>R k M)) (λJ22=>Bn P 315 false c (.pointer none) λN=>Vif N (KS [c,e]<|J22 (.bool true) w) (Nc c<|Fo 2 c λO=>Ld O w λQ=>KS [c,e]<|J22 Q w))
theorem Tz343 (h:Vz343 prog a0 a1 w R):Cl prog 343 #[a0,a1] w R:=
 tz 38 [(.tmp 4)] (s z (s (j [13] [0,1] z (i (s z z) z)) (s (r (.staged [0,1,0,4,12,28,0,64,192,448,960,2044,4095,8191])) (s (r (.staged [0,1,3,7,0,0,48,127,255,511,1023])) (s z z))))) [a0,a1] func343 h
def Vz347:VT1:=λP c w R=>
 VJoin 1 (λ_ k g=>Vif k (R (.bool true) g) (Cl P 352 #[c] g λm e=>Vif m (Nc c<|Fo 9 c λp=>Ld p e λq=>Bp .neq q (.string ⟨#[]⟩) λt=>R t e) (Cl P 353 #[c] e λu f=>Up .not u λv=>Vif v (Nc c<|Fo 1 c λy=>Ld y f λC=>Bp .eql C (.string ⟨#[]⟩) λD=>R D f) (R (.bool false) f)))) (λJ11=>Bn P 315 false c (.pointer none) λE=>Vif E (KS [c]<|J11 (.bool true) w) (Nc c<|Fo 10 c λF=>Ld F w λG=>KS [c]<|J11 G w))
theorem Tz347 (h:Vz347 prog a0 w R):Cl prog 347 #[a0] w R:=
 tz 30 [(.tmp 2)] (s z (s (b (j [3] [0] z (i (s z z) (s z (i (s z z) z))))) (s z z))) [a0] func347 h
def Vz348:VT2:=λP c f w R=>
 VJoin 1 (λ_ k e=>Vif k (R (.string ⟨#[]⟩) e) (Nc c<|Fo 9 c λm=>Ld m e λp=>Lns p λq=>Bmin P #[3,3] 3 #[f,q] e λg=>Nc c<|Fo 9 c λt=>Ld t e λu=>Sst u none (some g) λv=>Nc c<|Fo 9 c λy=>Ld y e λC=>Sst C (some g) none λD=>Nc c<|Fo 9 c λE=>St E D e λF=>R v F)) (λJ13=>Bn P 315 false c (.pointer none) λG=>Vif G (KS [c,f]<|J13 (.bool true) w) (Bp .lss f (I 1) λJ=>KS [c,f]<|J13 J w))
theorem Tz348 (h:Vz348 prog a0 a1 w R):Cl prog 348 #[a0,a1] w R:=
 tz 36 [(.tmp 4)] (s z (s (j [12] [0,1] z (i (s z z) z)) (s z (s z (s z (s z z)))))) [a0,a1] func348 h
def Vz349:VT1:=λP c w R=>
 Bn P 315 false c (.pointer none) λe=>Vif e (R (I 0) w) (Nc c<|Fo 9 c λf=>Ld f w λg=>Lns g λk=>R k w)
theorem Tz349 (h:Vz349 prog a0 w R):Cl prog 349 #[a0] w R:=
 tz 10 [(.tmp 2)] (s z (s (s z (i (s z z) z)) (s z z))) [a0] func349 h
def Vz350:VT1:=λP c w R=>
 VJoin 1 (λ_ p f=>Vif p (Dr f λe=>Nc c<|Fo 5 c λg=>Ld g e λk=>Nc c<|Fo 3 c λq=>Ld q e λt=>Cl P 354 #[t] e λu m=>Rk (λw K=>Ld g w λv=>K v) k m<|Ap P #[312,312] 312 #[k,u] m λy C=>Nc c<|Fo 5 c λD=>St D y C λE=>Nc c<|Fo 4 c λF=>St F (.bool true) E λG=>R (.tuple #[]) G) (R (.tuple #[]) f)) (λJ12=>Nc c<|Fo 2 c λJ=>Ld J w λL=>Vif L (Nc c<|Fo 1 c λM=>Ld M w λN=>Bv .eql N (.string ⟨#[]⟩) (Nc c<|Fo 4 c λO=>Ld O w λQ=>Up .not Q λS=>KS [c]<|J12 S w) (KS [c]<|J12 (.bool false) w)) (KS [c]<|J12 (.bool false) w))
theorem Tz350 (h:Vz350 prog a0 w R):Cl prog 350 #[a0] w R:=
 tz 36 [] (j [19] [0] z (i (s (r (.staged [0,0,2,6,14,0,32,96,224,480,1022,2047,4095,8191])) z) z)) [a0] func350 h
def Vz352:VT1:=λP c w R=>
 Cl P 353 #[c] w λk g=>Vif k (Dr g λf=>Nc c<|Fo 6 c λm=>Ld m f λp=>Bn P 451 true p (.pointer none) λq=>Vif q (Nc c<|Fo 6 c λt=>Ld t f λu=>Cl P 356 #[u] f λv e=>Vif v (Nc c<|Fo 7 c λy=>Ld y e λC=>Nc c<|Fo 5 c λD=>Ld D e λE=>Ias 3 E (I 0) λF=>Fo 0 F λG=>Ld G e λJ=>Lns J λL=>Bp .sub L (I 1) λM=>Bp .eql C M λN=>R N e) (R (.bool false) e)) (R (.bool false) f)) (Nc c<|Fo 4 c λO=>Ld O g λQ=>R Q g)
theorem Tz352 (h:Vz352 prog a0 w R):Cl prog 352 #[a0] w R:=
 tz 37 [(.tmp 2)] (s z (s (s z (i (s (r (.staged [0,1,3,7,15,31,63,127,255,511,1023,2047,4095,8191,16383,32767,65535,8191,139263,401407,925695,1974271,4071423,8265727,16654335,33431551,67108863,134217727,268435455])) z) z)) (s z z))) [a0] func352 h
def Vz353:VT1:=λP c w R=>
 Nc c<|Fo 5 c λe=>Ld e w λf=>Lnl f λg=>Bp .gtr g (I 0) λk=>R k w
theorem Tz353 (h:Vz353 prog a0 w R):Cl prog 353 #[a0] w R:=
 tz 9 [(.tmp 2)] (s z (s z z)) [a0] func353 h
def Vz354:VT1:=λP c w R=>
 Bn P 333 false c (.pointer none) λC=>Vif C (R (.slice none 0 0) w) (Nc c<|Fo 4 c λD=>Ld D w λE=>Cl P 361 #[E] w λF G=>New (zeroP P 350) 350 G λk J=>StA 2 k F J λm=>VJoin 1 (λ_ p L=>Nc c<|Fo 0 c λM=>Cl P 364 #[M] L λq N=>Ex q 0 λO=>Ex q 1 λQ=>New (zeroP P 442) 442 N λt S=>StA 3 t O S λe=>Vif Q (LdA 3 t e λU=>Bs P 312 1 #[(0,U)] e λW Y=>Ap P #[312,312] 312 #[p,W] Y λZ a0=>R Z a0) (R p e)) (λJ15=>Nc c<|Fo 4 c λa1=>Ld a1 m λa2=>Cl P 362 #[a2] m λu f=>Bv .neq u (.string ⟨#[]⟩) (LdA 2 k f λa3=>Lns u λa4=>Cl P 363 #[c,a3,a4] f λv a5=>Ex v 0 λa6=>Ex v 1 λa7=>New (zeroP P 442) 442 a5 λy a8=>StA 3 y a6 a8 λg=>Vif a7 (LdA 3 y g λa9=>Bs P 312 1 #[(0,a9)] g λb0 b1=>Ap P #[312,312] 312 #[(.slice none 0 0),b0] b1 λb2 b3=>KS [c]<|J15 b2 b3) (KS [c]<|J15 (.slice none 0 0) g)) (KS [c]<|J15 (.slice none 0 0) f)))
theorem Tz354 (h:Vz354 prog a0 w R):Cl prog 354 #[a0] w R:=
 tz 50 [(.tmp 2)] (s z (s (s z (i (s z z) z)) (s z (s z (j [3] [0] (s z (s z (i (s z (s z (i z z))) z))) (s (s z (s z (i z z))) (s z z))))))) [a0] func354 h
def Vz361:VT1:=λP f w R=>
 New (zeroP P 350) 350 w λc e=>Bn P 352 false f (.pointer none) λm=>Vif m (Bd P 350 #[] e λp=>StA 2 c p e λg=>LdA 2 c g λq=>R q g) (Nc f<|Fo 0 f λt=>LdA 2 t e λu=>StA 2 c u e λk=>LdA 2 c k λv=>R v k)
theorem Tz361 (h:Vz361 prog a0 w R):Cl prog 361 #[a0] w R:=
 tz 10 [(.cell 2 350)] (s z (s (s z (i (s z z) z)) (s z z))) [a0] func361 h
def Vz362:VT1:=λP c w R=>
 Bn P 352 false c (.pointer none) λe=>Vif e (R (.string ⟨#[]⟩) w) (Cl P 375 #[c] w λf g=>R f g)
theorem Tz362 (h:Vz362 prog a0 w R):Cl prog 362 #[a0] w R:=
 tz 7 [(.tmp 2)] (s z (s (s z (i (s z z) z)) (s z z))) [a0] func362 h
def Vz364:VT1:=λP c w R=>
 New (zeroP P 442) 442 w λq F=>Nc c<|Fo 0 c λZ=>Ld Z F λa0=>Lnl a0 λa1=>Bv .eql a1 (I 0) (Bd P 442 #[] F λa2=>StA 3 q a2 F λM=>LdA 3 q M λa3=>R (.tuple #[a3,(.bool false)]) M) (VJoin 1 (λ_ a4 a5=>Nc c<|Fo 0 c λa6=>St a6 (.slice none 0 0) a5 λa7=>Nc c<|Fo 2 c λa8=>St a8 (I 0) a7 λN=>Nc c<|Fo 1 c λa9=>Ld a9 N λb0=>Cl P 378 #[b0] N λb8 O=>LdA 3 a4 O λb1=>StA 3 q b1 O λQ=>LdA 3 q Q λb2=>R (.tuple #[b2,(.bool true)]) Q) (λJ16=>Dr F λt=>Nc c<|Fo 0 c λv=>Ld v t λe=>Cv P 79 9 e t λf=>Nc c<|Fo 1 c λJ=>Ld J t λG=>Nc c<|Fo 2 c λy=>Ld y t λg=>(Cl P 377 #[G] t λS C=>Rk (λw K=>Ld y w λk=>K k) g C<|Rk (λw K=>Cv P 79 9 e w λm=>K m) f C<|Rk (λw K=>Ld v w λp=>K p) e C<|Bd P 442 #[(0,f),(1,S),(2,g)] C λU=>New (zeroP P 442) 442 C λW u=>Rk (λw K=>Bd P 442 #[(0,f),(1,S),(2,g)] w λb3=>K b3) U u<|Rk (λw K=>Ld y w λk=>K k) g u<|Rk (λw K=>Ld J w λL=>K L) G u<|Rk (λw K=>Cv P 79 9 e w λm=>K m) f u<|Rk (λw K=>Ld v w λp=>K p) e u<|StA 3 W U u λb4=>KS [c,q]<|J16 W b4)/\(New (zeroP P 442) 442 t λY D=>Rk (λw K=>Ld y w λk=>K k) g D<|Rk (λw K=>Ld J w λL=>K L) G D<|Rk (λw K=>Cv P 79 9 e w λm=>K m) f D<|Rk (λw K=>Ld v w λp=>K p) e D<|Cl P 377 #[G] D λb5 E=>Rk (λw K=>Ld y w λk=>K k) g E<|Rk (λw K=>Cv P 79 9 e w λm=>K m) f E<|Rk (λw K=>Ld v w λp=>K p) e E<|Bd P 442 #[(0,f),(1,b5),(2,g)] E λb6=>StA 3 Y b6 E λb7=>KS [c,q]<|J16 Y b7)))
theorem Tz364 (h:Vz364 prog a0 w R):Cl prog 364 #[a0] w R:=
 tz 39 [(.cell 2 442),(.tmp 3)] (s z (s (s z (i (s z z) z)) (j [4] [0,2] (r (.tree [0,1,3,7,15,0,32,96,224,480,0,1024,3072,7168,16383,0,65535] (.op 0 (.op 1 (.op 2 (.op 3 (.op 4 (.op 5 (.op 6 (.op 7 (.op 8 (.op 10 (.op 11 (.op 12 (.op 13 (.fk (.op 9 (.op 14 (.op 15 (.op 16 .dn)))) (.op 15 (.op 9 (.op 14 (.op 16 .dn)))))))))))))))))))) (s z (s z (s z (s z z))))))) [a0] func364 h
def Vz375:VT1:=λP c w R=>
 Nc c<|Fo 0 c λg=>LdA 2 g w λk=>Cl P 383 #[k] w λe f=>Ex e 0 λm=>Ex e 1 λu=>Bd P 350 #[] f λp=>Nc c<|Fo 0 c λq=>StA 2 q p f λt=>R m t
theorem Tz375 (h:Vz375 prog a0 w R):Cl prog 375 #[a0] w R:=
 tz 18 [(.tmp 2)] (s z (s z (s z (s z z)))) [a0] func375 h
def Vz383:VT1:=λP g w R=>
 New g 350 w λc e=>VJoin 1 (λ_ k f=>Vif k (R (.tuple #[(.string ⟨#[]⟩),(I 1)]) f) (LdA 2 c f λm=>Cl P 396 #[m] f λp q=>R (.tuple #[p,(I 0)]) q)) (λJ5=>Fo 1 c λt=>Ld t e λu=>Bv .lss u (I 1) (KS [c]<|J5 (.bool true) e) (Fo 1 c λv=>Ld v e λy=>Bp .gtr y (I 255) λC=>KS [c]<|J5 C e))
theorem Tz383 (h:Vz383 prog a0 w R):Cl prog 383 #[a0] w R:=
 tz 14 [(.tmp 2),(.tmp 3)] (s z (s (j [11] [1] z (i (s z z) z)) (s z z))) [a0] func383 h
def Vz462:VT1:=λP c w R=>
 Bn P 320 true c (.pointer none) λe=>Vif e (Nc c<|Fo 8 c λf=>Ld f w λg=>R g w) (R (.bool false) w)
theorem Tz462 (h:Vz462 prog a0 w R):Cl prog 462 #[a0] w R:=
 tz 11 [(.tmp 2)] (s z (s z z)) [a0] func462 h
def Vz463:VT1:=λP c w R=>
 VJoin 1 (λ_ f e=>Vif f (R (I 7) e) (Nc c<|Fo 2 c λg=>St g (.bool true) e λk=>Nc c<|Fo 6 c λm=>St m (.bool false) k λp=>R (I 0) p)) (λJ4=>Bn P 320 false c (.pointer none) λq=>Vif q (KS [c]<|J4 (.bool true) w) (Nc c<|Fo 2 c λt=>Ld t w λu=>KS [c]<|J4 u w))
theorem Tz463 (h:Vz463 prog a0 w R):Cl prog 463 #[a0] w R:=
 tz 17 [(.tmp 2)] (s z (s (j [10] [0] z (i (s z z) z)) (s z (s z (s z z))))) [a0] func463 h
def Vz464:VT1:=λP c w R=>
 Bn P 320 false c (.pointer none) λe=>Vif e (R (I 0) w) (Nc c<|Fo 9 c λf=>Ld f w λg=>R g w)
theorem Tz464 (h:Vz464 prog a0 w R):Cl prog 464 #[a0] w R:=
 tz 9 [(.tmp 2)] (s z (s (s z (i (s z z) z)) (s z z))) [a0] func464 h
def Vz465:VT2:=λP c e w R=>
 VJoin 1 (λ_ y m=>Vif y (R (I 0) m) (Dr m λk=>Lns e λp=>Nc c<|Fo 0 c λq=>Ld q k λt=>Nc c<|Fo 3 c λC=>Ld C k λD=>Cl P 473 #[D] k λE f=>Rk (λw K=>Ld q w λF=>K F) t f<|Rk (λw K=>Lns e λG=>K G) p f<|Bp .sub t E λJ=>Bmin P #[3,3] 3 #[p,J] f λg=>Dr f λu=>Nc c<|Fo 3 c λL=>Ld L u λM=>Sst e none (some g) λN=>Cl P 474 #[M,N] u λa1 v=>Bp .gtr g (I 0) λO=>Vif O (Nc c<|Fo 6 c λQ=>St Q (.bool false) v λS=>R g S) (R g v))) (λJ22=>Bn P 320 false c (.pointer none) λU=>Vif U (KS [c,e]<|J22 (.bool true) w) (Nc c<|Fo 2 c λW=>Ld W w λY=>Vif Y (KS [c,e]<|J22 (.bool true) w) (Nc c<|Fo 8 c λZ=>Ld Z w λa0=>KS [c,e]<|J22 a0 w)))
theorem Tz465 (h:Vz465 prog a0 a1 w R):Cl prog 465 #[a0,a1] w R:=
 tz 47 [(.tmp 4)] (s z (s (j [19] [0,1] z (i (s z z) z)) (s (r (.staged [0,1,0,4,12,28,0,64,192,448,960,2044,4095,8191])) (s (r (.staged [0,1,3,7,0,0,48,127])) (s (s z (i z z)) (s z z)))))) [a0,a1] func465 h
def Vz469:VT1:=λP c w R=>
 VJoin 1 (λ_ g e=>Vif g (R (.bool true) e) (Nc c<|Fo 5 c λk=>Ld k e λm=>Bn P 527 true m (.pointer none) λp=>Vif p (Dr e λf=>Nc c<|Fo 7 c λq=>Ld q f λt=>Lnl t λu=>Nc c<|Fo 1 c λv=>Ld v f λy=>Bp .geq u y λC=>R C f) (Nc c<|Fo 6 c λD=>Ld D e λE=>R E e))) (λJ16=>Bn P 320 false c (.pointer none) λF=>Vif F (KS [c]<|J16 (.bool true) w) (Nc c<|Fo 8 c λG=>Ld G w λJ=>KS [c]<|J16 J w))
theorem Tz469 (h:Vz469 prog a0 w R):Cl prog 469 #[a0] w R:=
 tz 32 [(.tmp 2)] (s z (s (b (j [3] [0] z (i (s z z) (s z (i (s (r (.staged [0,1,3,7,15,0,32,96,224,511,1023])) z) z))))) (s z z))) [a0] func469 h
def Vz471:VT1:=λP c w R=>
 Bn P 320 false c (.pointer none) λe=>Vif e (R (I 0) w) (Nc c<|Fo 7 c λf=>Ld f w λg=>Lnl g λk=>R k w)
theorem Tz471 (h:Vz471 prog a0 w R):Cl prog 471 #[a0] w R:=
 tz 10 [(.tmp 2)] (s z (s (s z (i (s z z) z)) (s z z))) [a0] func471 h
def Vz473:VT1:=λP c w R=>
 Bn P 340 false c (.pointer none) λe=>Vif e (R (I 0) w) (Nc c<|Fo 0 c λf=>Ld f w λg=>Lns g λk=>R k w)
theorem Tz473 (h:Vz473 prog a0 w R):Cl prog 473 #[a0] w R:=
 tz 10 [(.tmp 2)] (s z (s (s z (i (s z z) z)) (s z z))) [a0] func473 h
def Vz474:VT2:=λP c e w R=>
 Bn P 340 false c (.pointer none) λf=>Vif f (R (I 7) w) (Nc c<|Fo 0 c λg=>Ld g w λk=>Bp .add k e λm=>Nc c<|Fo 0 c λp=>St p m w λq=>R (I 0) q)
theorem Tz474 (h:Vz474 prog a0 a1 w R):Cl prog 474 #[a0,a1] w R:=
 tz 15 [(.tmp 4)] (s z (s (s z (i (s z z) z)) (s z (s z z)))) [a0,a1] func474 h
def Vz494:VT1:=λP c w R=>
 Bn P 324 true c (.pointer none) λe=>Vif e (Nc c<|Fo 0 c λf=>Fo 0 f λg=>Ld g w λk=>Cl P 462 #[k] w λm p=>R m p) (R (.bool false) w)
theorem Tz494 (h:Vz494 prog a0 w R):Cl prog 494 #[a0] w R:=
 tz 13 [(.tmp 2)] (s z (s z z)) [a0] func494 h
def Vz495:VT1:=λP c w R=>
 Bn P 324 false c (.pointer none) λe=>Vif e (R (I 7) w) (Nc c<|Fo 0 c λf=>Fo 0 f λg=>Ld g w λk=>Cl P 463 #[k] w λm p=>R m p)
theorem Tz495 (h:Vz495 prog a0 w R):Cl prog 495 #[a0] w R:=
 tz 11 [(.tmp 2)] (s z (s (s z (i (s z z) z)) (s z z))) [a0] func495 h
def Vz496:VT1:=λP c w R=>
 Bn P 324 false c (.pointer none) λe=>Vif e (R (I 0) w) (Nc c<|Fo 0 c λf=>Fo 0 f λg=>Ld g w λk=>Cl P 464 #[k] w λm p=>R m p)
theorem Tz496 (h:Vz496 prog a0 w R):Cl prog 496 #[a0] w R:=
 tz 11 [(.tmp 2)] (s z (s (s z (i (s z z) z)) (s z z))) [a0] func496 h
def Vz497:VT2:=λP c e w R=>
 Bn P 324 false c (.pointer none) λf=>Vif f (R (I 0) w) (Nc c<|Fo 0 c λg=>Fo 0 g λk=>Ld k w λm=>Cl P 465 #[m,e] w λp q=>R p q)
theorem Tz497 (h:Vz497 prog a0 a1 w R):Cl prog 497 #[a0,a1] w R:=
 tz 14 [(.tmp 4)] (s z (s (s z (i (s z z) z)) (s z z))) [a0,a1] func497 h
def Vz501:VT1:=λP c w R=>
 Bn P 324 false c (.pointer none) λe=>Vif e (R (.bool true) w) (Nc c<|Fo 0 c λf=>Fo 0 f λg=>Ld g w λk=>Cl P 469 #[k] w λm p=>R m p)
theorem Tz501 (h:Vz501 prog a0 w R):Cl prog 501 #[a0] w R:=
 tz 13 [(.tmp 2)] (s z (s z z)) [a0] func501 h
def Vz503:VT1:=λP c w R=>
 Bn P 324 false c (.pointer none) λe=>Vif e (R (I 0) w) (Nc c<|Fo 2 c λf=>Ld f w λg=>Lns g λk=>R k w)
theorem Tz503 (h:Vz503 prog a0 w R):Cl prog 503 #[a0] w R:=
 tz 10 [(.tmp 2)] (s z (s (s z (i (s z z) z)) (s z z))) [a0] func503 h
end Go.Proofs.YthkaggnihbkmeaaGreatDoor
