/- joined texts -/
import Derived.Test.YtkfpmjjcogigfaaGreatDoorF3
import Derived.Test.YtkfpmjjcogigfaaGreatDoorProg
set_option linter.all false
namespace Go.Wk
open Go.Proofs
noncomputable abbrev TP:=Tryz.prog
abbrev Pt(b:Nat):Va:=.pointer (some ⟨b,0,none⟩)
abbrev Ii(i:Int):Va:=.int .i64 i
theorem ag2:zab TP 2=some false:=by kernel_rfl
theorem ag3:zab TP 3=some false:=by kernel_rfl
theorem ag4:zab TP 4=some false:=by kernel_rfl
theorem ag5:zab TP 5=some false:=by kernel_rfl
theorem yH:zab TP 9=some false:=by kernel_rfl
theorem zks:zab TP 28=some false:=by kernel_rfl
theorem zey:zab TP 30=some false:=by kernel_rfl
theorem za2:zab TP 31=some false:=by kernel_rfl
theorem zb9:zab TP 32=some false:=by kernel_rfl
theorem zcD:zab TP 33=some false:=by kernel_rfl
theorem zbw:zab TP 35=some true:=by kernel_rfl
theorem yV:zab TP 36=some false:=by kernel_rfl
theorem zct:zab TP 37=some false:=by kernel_rfl
theorem zbZ:zab TP 39=some true:=by kernel_rfl
theorem zc3:zab TP 46=some false:=by kernel_rfl
theorem zbs:zab TP 48=some true:=by kernel_rfl
theorem zqU:zab TP 52=some false:=by kernel_rfl
theorem zsB:zab TP 64=some false:=by kernel_rfl
theorem zdf:zab TP 65=some false:=by kernel_rfl
theorem zaU:zab TP 67=some true:=by kernel_rfl
theorem zqE:zab TP 78=some true:=by kernel_rfl
theorem zDm:zab TP 80=some false:=by kernel_rfl
theorem zev:zab TP 81=some false:=by kernel_rfl
theorem zyG:zab TP 87=some false:=by kernel_rfl
theorem zDi:zab TP 98=some true:=by kernel_rfl
theorem zrX:zab TP 105=some false:=by kernel_rfl
theorem zbI:zab TP 108=some false:=by kernel_rfl
theorem zbR:zab TP 109=some false:=by kernel_rfl
theorem zaz:zab TP 111=some true:=by kernel_rfl
theorem zjG:zab TP 112=some false:=by kernel_rfl
theorem zcy:zab TP 114=some true:=by kernel_rfl
theorem zgK:zab TP 120=some false:=by kernel_rfl
theorem ziG:zab TP 121=some false:=by kernel_rfl
theorem zht:zab TP 126=some true:=by kernel_rfl
theorem zg8:zab TP 137=some true:=by kernel_rfl
theorem zAc:zab TP 156=some false:=by kernel_rfl
theorem zb5:zab TP 173=some false:=by kernel_rfl
theorem zem:zab TP 176=some false:=by kernel_rfl
theorem zBW:zab TP 182=some false:=by kernel_rfl
theorem zpM:zab TP 189=some true:=by kernel_rfl
theorem zz9:zab TP 192=some false:=by kernel_rfl
theorem zpQ:zab TP 215=some true:=by kernel_rfl
theorem zg7:zab TP 224=some false:=by kernel_rfl
theorem zzr:zab TP 240=some false:=by kernel_rfl
theorem zAz:zab TP 277=some false:=by kernel_rfl
theorem ztW:zab TP 327=some true:=by kernel_rfl
theorem zpD:zab TP 331=some false:=by kernel_rfl
theorem zBI:zab TP 347=some false:=by kernel_rfl
theorem zzR:zab TP 380=some false:=by kernel_rfl
theorem zB6:zab TP 382=some false:=by kernel_rfl
theorem zzG:zab TP 388=some false:=by kernel_rfl
theorem zxj:zab TP 397=some true:=by kernel_rfl
theorem zzT:zab TP 443=some false:=by kernel_rfl
theorem zcf:zm3 TP 78=some (2,9):=by kernel_rfl
theorem zlp:zm3 TP 397=some (2,176):=by kernel_rfl
theorem zpf:zm3 TP 426=some (9,5):=by kernel_rfl
theorem bd8:zn TP 8=true:=by kernel_rfl
theorem bd9:zn TP 9=true:=by kernel_rfl
theorem zyE:zn TP 10=true:=by kernel_rfl
theorem zx7:zn TP 11=true:=by kernel_rfl
theorem zia:zn TP 12=true:=by kernel_rfl
theorem ziW:zn TP 13=true:=by kernel_rfl
theorem zAY:zn TP 16=true:=by kernel_rfl
theorem zz5:zn TP 17=true:=by kernel_rfl
theorem zyV:zn TP 18=true:=by kernel_rfl
theorem zvm:zn TP 19=true:=by kernel_rfl
theorem zz3:zn TP 20=true:=by kernel_rfl
theorem zoB:zn TP 21=true:=by kernel_rfl
theorem zsb:zn TP 22=true:=by kernel_rfl
theorem zA9:zn TP 24=true:=by kernel_rfl
theorem zxA:zn TP 25=true:=by kernel_rfl
theorem zCR:zn TP 26=true:=by kernel_rfl
theorem zCK:zn TP 27=true:=by kernel_rfl
theorem zAx:zn TP 29=true:=by kernel_rfl
theorem zzt:zn TP 30=true:=by kernel_rfl
theorem zBN:zn TP 31=true:=by kernel_rfl
theorem zvw:zn TP 32=true:=by kernel_rfl
theorem zBq:zn TP 33=true:=by kernel_rfl
theorem zCX:zn TP 34=true:=by kernel_rfl
theorem zC6:zn TP 35=true:=by kernel_rfl
theorem zAl:zn TP 38=true:=by kernel_rfl
theorem zDg:zn TP 39=true:=by kernel_rfl
theorem zxR:zn TP 40=true:=by kernel_rfl
theorem zy2:zn TP 41=true:=by kernel_rfl
theorem zDn:zn TP 42=true:=by kernel_rfl
theorem zCS:zn TP 43=true:=by kernel_rfl
theorem zCV:zn TP 44=true:=by kernel_rfl
theorem zDr:zn TP 45=true:=by kernel_rfl
theorem zAE:zn TP 46=true:=by kernel_rfl
theorem ziU:zn TP 47=true:=by kernel_rfl
theorem zC0:zn TP 48=true:=by kernel_rfl
theorem zzv:zn TP 49=true:=by kernel_rfl
theorem zup:zn TP 50=true:=by kernel_rfl
theorem zAB:zn TP 51=true:=by kernel_rfl
theorem zB4:zn TP 52=true:=by kernel_rfl
theorem ztM:zn TP 53=true:=by kernel_rfl
theorem zDc:zn TP 54=true:=by kernel_rfl
theorem zBd:zn TP 56=true:=by kernel_rfl
theorem zC9:zn TP 57=true:=by kernel_rfl
theorem ztF:zn TP 58=true:=by kernel_rfl
theorem zrB:zn TP 59=true:=by kernel_rfl
theorem zvE:zn TP 60=true:=by kernel_rfl
theorem zDd:zn TP 61=true:=by kernel_rfl
theorem zva:zn TP 62=true:=by kernel_rfl
theorem zDj:zn TP 63=true:=by kernel_rfl
theorem zC7:zn TP 64=true:=by kernel_rfl
theorem zCZ:zn TP 65=true:=by kernel_rfl
theorem zDf:zn TP 66=true:=by kernel_rfl
theorem zCE:zn TP 67=true:=by kernel_rfl
theorem zCU:zn TP 68=true:=by kernel_rfl
theorem zut:zn TP 69=true:=by kernel_rfl
theorem zAh:zn TP 70=true:=by kernel_rfl
theorem zCL:zn TP 71=true:=by kernel_rfl
theorem zzD:zn TP 72=true:=by kernel_rfl
theorem zfO:zn TP 73=true:=by kernel_rfl
theorem zuR:zn TP 74=true:=by kernel_rfl
theorem zky:zn TP 75=true:=by kernel_rfl
theorem zvO:zn TP 76=true:=by kernel_rfl
theorem zBK:zn TP 77=true:=by kernel_rfl
theorem zzA:zn TP 78=true:=by kernel_rfl
theorem zie:zn TP 79=true:=by kernel_rfl
theorem zy8:zn TP 80=true:=by kernel_rfl
theorem zDo:zn TP 81=true:=by kernel_rfl
theorem zsg:zn TP 82=true:=by kernel_rfl
theorem zu2:zn TP 83=true:=by kernel_rfl
theorem zCJ:zn TP 84=true:=by kernel_rfl
theorem zDl:zn TP 85=true:=by kernel_rfl
theorem zDe:zn TP 86=true:=by kernel_rfl
theorem zCT:zn TP 87=true:=by kernel_rfl
theorem zC5:zn TP 88=true:=by kernel_rfl
theorem zyR:zn TP 89=true:=by kernel_rfl
theorem zBF:zn TP 90=true:=by kernel_rfl
theorem zzC:zn TP 91=true:=by kernel_rfl
theorem zz7:zn TP 93=true:=by kernel_rfl
theorem zze:zn TP 94=true:=by kernel_rfl
theorem zCY:zn TP 95=true:=by kernel_rfl
theorem zCI:zn TP 96=true:=by kernel_rfl
theorem ztf:zn TP 97=true:=by kernel_rfl
theorem zCQ:zn TP 98=true:=by kernel_rfl
theorem zCW:zn TP 99=true:=by kernel_rfl
theorem zm1:zn TP 100=true:=by kernel_rfl
theorem zBo:zn TP 101=true:=by kernel_rfl
theorem zzk:zn TP 102=true:=by kernel_rfl
theorem zBp:zn TP 106=true:=by kernel_rfl
theorem zqr:zn TP 107=true:=by kernel_rfl
theorem zlg:zn TP 108=true:=by kernel_rfl
theorem zB3:zn TP 109=true:=by kernel_rfl
theorem zzl:zn TP 110=true:=by kernel_rfl
theorem zz4:zn TP 111=true:=by kernel_rfl
theorem zrY:zn TP 112=true:=by kernel_rfl
theorem zCD:zn TP 113=true:=by kernel_rfl
theorem zAu:zn TP 114=true:=by kernel_rfl
theorem zsP:zn TP 115=true:=by kernel_rfl
theorem zs5:zn TP 116=true:=by kernel_rfl
theorem zAJ:zn TP 117=true:=by kernel_rfl
theorem zCc:zn TP 118=true:=by kernel_rfl
theorem zzf:zn TP 119=true:=by kernel_rfl
theorem zrU:zn TP 120=true:=by kernel_rfl
theorem ztj:zn TP 121=true:=by kernel_rfl
theorem zqa:zn TP 122=true:=by kernel_rfl
theorem zqj:zn TP 123=true:=by kernel_rfl
theorem zwN:zn TP 124=true:=by kernel_rfl
theorem zzw:zn TP 125=true:=by kernel_rfl
theorem zA0:zn TP 126=true:=by kernel_rfl
theorem zzY:zn TP 127=true:=by kernel_rfl
theorem zBL:zn TP 128=true:=by kernel_rfl
theorem zm8:zn TP 129=true:=by kernel_rfl
theorem zA6:zn TP 130=true:=by kernel_rfl
theorem zsR:zn TP 131=true:=by kernel_rfl
theorem zAW:zn TP 132=true:=by kernel_rfl
theorem znm:zn TP 133=true:=by kernel_rfl
theorem zwk:zn TP 134=true:=by kernel_rfl
theorem zAR:zn TP 135=true:=by kernel_rfl
theorem zAG:zn TP 136=true:=by kernel_rfl
theorem zwj:zn TP 137=true:=by kernel_rfl
theorem zl4:zn TP 138=true:=by kernel_rfl
theorem zzn:zn TP 139=true:=by kernel_rfl
theorem zwP:zn TP 140=true:=by kernel_rfl
theorem zw4:zn TP 141=true:=by kernel_rfl
theorem zxh:zn TP 142=true:=by kernel_rfl
theorem zBA:zn TP 143=true:=by kernel_rfl
theorem zua:zn TP 144=true:=by kernel_rfl
theorem zzE:zn TP 146=true:=by kernel_rfl
theorem zBU:zn TP 151=true:=by kernel_rfl
theorem zzy:zn TP 153=true:=by kernel_rfl
theorem zpo:zn TP 154=true:=by kernel_rfl
theorem zAw:zn TP 157=true:=by kernel_rfl
theorem zkC:zn TP 158=true:=by kernel_rfl
theorem zBz:zn TP 163=true:=by kernel_rfl
theorem zzX:zn TP 164=true:=by kernel_rfl
theorem zwY:zn TP 166=true:=by kernel_rfl
theorem zsO:zn TP 169=true:=by kernel_rfl
theorem zzQ:zn TP 170=true:=by kernel_rfl
theorem zwu:zn TP 174=true:=by kernel_rfl
theorem zBt:zn TP 175=true:=by kernel_rfl
theorem zwm:zn TP 176=true:=by kernel_rfl
theorem ztr:zn TP 177=true:=by kernel_rfl
theorem zzg:zn TP 178=true:=by kernel_rfl
theorem zCi:zn TP 179=true:=by kernel_rfl
theorem zAm:zn TP 181=true:=by kernel_rfl
theorem zCb:zn TP 182=true:=by kernel_rfl
theorem zCk:zn TP 183=true:=by kernel_rfl
theorem zBO:zn TP 184=true:=by kernel_rfl
theorem zCg:zn TP 185=true:=by kernel_rfl
theorem zCo:zn TP 186=true:=by kernel_rfl
theorem zzx:zn TP 187=true:=by kernel_rfl
theorem zBY:zn TP 188=true:=by kernel_rfl
theorem zxf:zn TP 189=true:=by kernel_rfl
theorem zwQ:zn TP 190=true:=by kernel_rfl
theorem zwv:zn TP 191=true:=by kernel_rfl
theorem zAk:zn TP 192=true:=by kernel_rfl
theorem zCl:zn TP 193=true:=by kernel_rfl
theorem zBh:zn TP 194=true:=by kernel_rfl
theorem zwE:zn TP 195=true:=by kernel_rfl
theorem zwD:zn TP 196=true:=by kernel_rfl
theorem zjz:zn TP 197=true:=by kernel_rfl
theorem zBS:zn TP 198=true:=by kernel_rfl
theorem zAt:zn TP 199=true:=by kernel_rfl
theorem zw5:zn TP 200=true:=by kernel_rfl
theorem zxp:zn TP 201=true:=by kernel_rfl
theorem zBE:zn TP 202=true:=by kernel_rfl
theorem zzo:zn TP 203=true:=by kernel_rfl
theorem zB2:zn TP 207=true:=by kernel_rfl
theorem zzM:zn TP 208=true:=by kernel_rfl
theorem zw6:zn TP 209=true:=by kernel_rfl
theorem zzm:zn TP 211=true:=by kernel_rfl
theorem zBc:zn TP 214=true:=by kernel_rfl
theorem zlh:zn TP 216=true:=by kernel_rfl
theorem zwU:zn TP 218=true:=by kernel_rfl
theorem zpm:zn TP 219=true:=by kernel_rfl
theorem zxb:zn TP 220=true:=by kernel_rfl
theorem zwO:zn TP 222=true:=by kernel_rfl
theorem zxt:zn TP 223=true:=by kernel_rfl
theorem zAM:zn TP 224=true:=by kernel_rfl
theorem zAq:zn TP 225=true:=by kernel_rfl
theorem zAa:zn TP 226=true:=by kernel_rfl
theorem zB0:zn TP 227=true:=by kernel_rfl
theorem zzd:zn TP 228=true:=by kernel_rfl
theorem zAP:zn TP 229=true:=by kernel_rfl
theorem zwo:zn TP 230=true:=by kernel_rfl
theorem zwz:zn TP 231=true:=by kernel_rfl
theorem zCf:zn TP 232=true:=by kernel_rfl
theorem zBX:zn TP 234=true:=by kernel_rfl
theorem zxl:zn TP 235=true:=by kernel_rfl
theorem zxr:zn TP 241=true:=by kernel_rfl
theorem zwA:zn TP 245=true:=by kernel_rfl
theorem zt4:zn TP 246=true:=by kernel_rfl
theorem zBC:zn TP 247=true:=by kernel_rfl
theorem zBu:zn TP 248=true:=by kernel_rfl
theorem zxd:zn TP 249=true:=by kernel_rfl
theorem zBG:zn TP 250=true:=by kernel_rfl
theorem zwK:zn TP 251=true:=by kernel_rfl
theorem zkZ:zn TP 252=true:=by kernel_rfl
theorem zB5:zn TP 254=true:=by kernel_rfl
theorem zzc:zn TP 255=true:=by kernel_rfl
theorem zAi:zn TP 256=true:=by kernel_rfl
theorem zCx:zn TP 257=true:=by kernel_rfl
theorem zCw:zn TP 259=true:=by kernel_rfl
theorem zB7:zn TP 260=true:=by kernel_rfl
theorem zCv:zn TP 262=true:=by kernel_rfl
theorem zA1:zn TP 265=true:=by kernel_rfl
theorem zAH:zn TP 267=true:=by kernel_rfl
theorem zAp:zn TP 270=true:=by kernel_rfl
theorem zCu:zn TP 273=true:=by kernel_rfl
theorem zCA:zn TP 276=true:=by kernel_rfl
theorem zA7:zn TP 278=true:=by kernel_rfl
theorem zCj:zn TP 280=true:=by kernel_rfl
theorem zws:zn TP 281=true:=by kernel_rfl
theorem zAI:zn TP 282=true:=by kernel_rfl
theorem zAj:zn TP 286=true:=by kernel_rfl
theorem zAK:zn TP 289=true:=by kernel_rfl
theorem zBi:zn TP 291=true:=by kernel_rfl
theorem zwt:zn TP 296=true:=by kernel_rfl
theorem zte:zn TP 297=true:=by kernel_rfl
theorem zpI:zn TP 298=true:=by kernel_rfl
theorem zzL:zn TP 299=true:=by kernel_rfl
theorem zA2:zn TP 300=true:=by kernel_rfl
theorem zwT:zn TP 301=true:=by kernel_rfl
theorem zwl:zn TP 302=true:=by kernel_rfl
theorem zAv:zn TP 303=true:=by kernel_rfl
theorem zBr:zn TP 304=true:=by kernel_rfl
theorem zCz:zn TP 306=true:=by kernel_rfl
theorem zAr:zn TP 307=true:=by kernel_rfl
theorem zwp:zn TP 308=true:=by kernel_rfl
theorem zCe:zn TP 309=true:=by kernel_rfl
theorem zAX:zn TP 310=true:=by kernel_rfl
theorem zwZ:zn TP 311=true:=by kernel_rfl
theorem zBH:zn TP 312=true:=by kernel_rfl
theorem zxw:zn TP 313=true:=by kernel_rfl
theorem zAV:zn TP 319=true:=by kernel_rfl
theorem zpu:zn TP 320=true:=by kernel_rfl
theorem zAT:zn TP 321=true:=by kernel_rfl
theorem zBV:zn TP 322=true:=by kernel_rfl
theorem zCB:zn TP 329=true:=by kernel_rfl
theorem zCq:zn TP 330=true:=by kernel_rfl
theorem zwC:zn TP 331=true:=by kernel_rfl
theorem zzi:zn TP 332=true:=by kernel_rfl
theorem zCC:zn TP 333=true:=by kernel_rfl
theorem zCh:zn TP 334=true:=by kernel_rfl
theorem zzj:zn TP 335=true:=by kernel_rfl
theorem zxo:zn TP 338=true:=by kernel_rfl
theorem zBT:zn TP 339=true:=by kernel_rfl
theorem zzu:zn TP 340=true:=by kernel_rfl
theorem zAO:zn TP 341=true:=by kernel_rfl
theorem zA5:zn TP 342=true:=by kernel_rfl
theorem zBJ:zn TP 343=true:=by kernel_rfl
theorem zBy:zn TP 344=true:=by kernel_rfl
theorem zzJ:zn TP 351=true:=by kernel_rfl
theorem zBB:zn TP 352=true:=by kernel_rfl
theorem zs7:zn TP 353=true:=by kernel_rfl
theorem zAL:zn TP 354=true:=by kernel_rfl
theorem zzK:zn TP 355=true:=by kernel_rfl
theorem zzh:zn TP 356=true:=by kernel_rfl
theorem zts:zn TP 362=true:=by kernel_rfl
theorem zBD:zn TP 363=true:=by kernel_rfl
theorem zAg:zn TP 366=true:=by kernel_rfl
theorem zxk:zn TP 386=true:=by kernel_rfl
theorem zxg:zn TP 391=true:=by kernel_rfl
theorem zw1:zn TP 404=true:=by kernel_rfl
theorem bo4:zuk TP 4=true:=by kernel_rfl
theorem zpK:zsw TP 111 [0,0,0,1]=true:=by kernel_rfl
theorem zwy:zsw TP 114 [1,0,0,2]=true:=by kernel_rfl
theorem yn:zbl TP 35 0=some 0:=by kernel_rfl
theorem zbi:zbl TP 35 1=some 1:=by kernel_rfl
theorem zaq:zbl TP 35 2=some 2:=by kernel_rfl
theorem zby:zbl TP 39 0=some 0:=by kernel_rfl
theorem ye:zbl TP 39 1=some 1:=by kernel_rfl
theorem za4:zbl TP 39 2=some 2:=by kernel_rfl
theorem yW:zbl TP 39 3=some 5:=by kernel_rfl
theorem zaV:zbl TP 39 4=some 6:=by kernel_rfl
theorem y6:zbl TP 39 5=some 7:=by kernel_rfl
theorem zaC:zbl TP 48 0=some 0:=by kernel_rfl
theorem zg1:zbl TP 67 0=some 0:=by kernel_rfl
theorem zax:zbl TP 67 1=some 3:=by kernel_rfl
theorem zbb:zbl TP 83 0=some 0:=by kernel_rfl
theorem zfY:zbl TP 98 0=some 0:=by kernel_rfl
theorem zjQ:zbl TP 98 1=some 1:=by kernel_rfl
theorem zak:zbl TP 111 0=some 0:=by kernel_rfl
theorem yv:zbl TP 111 1=some 1:=by kernel_rfl
theorem zaN:zbl TP 111 2=some 2:=by kernel_rfl
theorem zaB:zbl TP 111 3=some 3:=by kernel_rfl
theorem zbJ:zbl TP 114 0=some 0:=by kernel_rfl
theorem zfd:zbl TP 114 1=some 1:=by kernel_rfl
theorem zbE:zbl TP 114 2=some 2:=by kernel_rfl
theorem zfn:zbl TP 114 3=some 3:=by kernel_rfl
theorem zgw:zbl TP 123 0=some 0:=by kernel_rfl
theorem zhf:zbl TP 123 1=some 1:=by kernel_rfl
theorem zdI:zbl TP 123 2=some 4:=by kernel_rfl
theorem zo8:zbl TP 126 0=some 0:=by kernel_rfl
theorem zi0:zbl TP 126 1=some 1:=by kernel_rfl
theorem zhp:zbl TP 137 0=some 0:=by kernel_rfl
theorem zvK:zbl TP 169 1=some 1:=by kernel_rfl
theorem zap:zbl TP 178 0=some 0:=by kernel_rfl
theorem zwa:zbl TP 199 1=some 1:=by kernel_rfl
theorem zhl:zbl TP 215 0=some 0:=by kernel_rfl
theorem zhH:zbl TP 215 1=some 1:=by kernel_rfl
theorem zvi:zbl TP 303 0=some 0:=by kernel_rfl
theorem zaO:zbl TP 327 0=some 0:=by kernel_rfl
theorem zhO:zbl TP 333 0=some 0:=by kernel_rfl
theorem zo4:zbl TP 384 0=some 0:=by kernel_rfl
theorem zi4:zbl TP 384 1=some 1:=by kernel_rfl
theorem zvh:zbl TP 410 1=some 1:=by kernel_rfl
theorem zux:zbl TP 412 0=some 0:=by kernel_rfl
theorem zo7:zbl TP 412 1=some 1:=by kernel_rfl
theorem zvP:zbl TP 412 2=some 2:=by kernel_rfl
theorem zvH:zr7 TP 294 0=some (0,1,false):=by kernel_rfl
theorem zuU:zr7 TP 294 1=some (1,1,false):=by kernel_rfl
theorem zv1:zr7 TP 310 0=some (0,1,false):=by kernel_rfl
theorem zAo:zmE TP 20=true:=by kernel_rfl
theorem zcu:zmE TP 87=true:=by kernel_rfl
theorem zmH:zhD TP 260 169=some false:=by kernel_rfl
theorem znL:zhD TP 260 199=some false:=by kernel_rfl
theorem zn1:zhD TP 260 408=some false:=by kernel_rfl
theorem ziH:zhD TP 263 169=some true:=by kernel_rfl
theorem ziN:zhD TP 263 199=some true:=by kernel_rfl
theorem zob:zhD TP 263 28=some false:=by kernel_rfl
theorem ziA:zhD TP 263 408=some true:=by kernel_rfl
theorem zoI:zhD TP 265 28=some false:=by kernel_rfl
theorem zmA:zhD TP 393 169=some false:=by kernel_rfl
theorem znW:zhD TP 393 199=some false:=by kernel_rfl
theorem zoO:zhD TP 393 28=some false:=by kernel_rfl
theorem zmJ:zhD TP 393 408=some false:=by kernel_rfl
theorem zeE:zdz TP 2 .i64=true:=by kernel_rfl
theorem zaw:zdz TP 3 .i64=true:=by kernel_rfl
theorem zaT:zdz TP 5 .u8=true:=by kernel_rfl
theorem znS:zdz TP 21 .i32=true:=by kernel_rfl
theorem znA:zdz TP 28 .i64=true:=by kernel_rfl
theorem zbA:zdz TP 30 .i64=true:=by kernel_rfl
theorem zaS:zdz TP 108 .i64=true:=by kernel_rfl
theorem zbz:zdz TP 109 .u64=true:=by kernel_rfl
theorem zaI:zdz TP 112 .i64=true:=by kernel_rfl
theorem zdu:zdz TP 285 .u64=true:=by kernel_rfl
theorem zC2:zd6 TP 80=some (9,52):=by kernel_rfl
theorem zhU:zd6 TP 81=some (9,52):=by kernel_rfl
theorem zn2:zd6 TP 89=some (30,88):=by kernel_rfl
theorem zjs:zd6 TP 129=some (30,127):=by kernel_rfl
theorem zug:zd6 TP 166=some (9,3):=by kernel_rfl
theorem zll:zd6 TP 295=some (112,294):=by kernel_rfl
theorem ziF:zd6 TP 305=some (108,303):=by kernel_rfl
theorem zlq:zd6 TP 311=some (108,310):=by kernel_rfl
theorem zgG:zd6 TP 413=some (112,412):=by kernel_rfl
theorem zdM:zkn TP 28=true:=by kernel_rfl
theorem zzZ:zkn TP 81=true:=by kernel_rfl
theorem zpB:zkn TP 140=true:=by kernel_rfl
theorem zmP:zkn TP 169=true:=by kernel_rfl
theorem zfz:zkn TP 199=true:=by kernel_rfl
theorem zme:zkn TP 408=true:=by kernel_rfl
theorem zCF:zdt TP 35=some [(0,1),(1,1),(2,1)]:=by kernel_rfl
theorem zqA:zdt TP 39=some [(0,1),(1,1),(2,3),(5,1),(6,1),(7,1)]:=by kernel_rfl
theorem zAn:zdt TP 48=some [(0,1)]:=by kernel_rfl
theorem zBf:zdt TP 67=some [(0,3),(3,1)]:=by kernel_rfl
theorem zCP:zdt TP 83=some [(0,1)]:=by kernel_rfl
theorem zDk:zdt TP 98=some [(0,1),(1,4)]:=by kernel_rfl
theorem zkj:zdt TP 111=some [(0,1),(1,1),(2,1),(3,1)]:=by kernel_rfl
theorem zw3:zdt TP 114=some [(0,1),(1,1),(2,1),(3,1)]:=by kernel_rfl
theorem ztV:zdt TP 123=some [(0,1),(1,3),(4,1)]:=by kernel_rfl
theorem zw0:zdt TP 126=some [(0,1),(1,1)]:=by kernel_rfl
theorem zqx:zdt TP 137=some [(0,1),(1,1),(2,1)]:=by kernel_rfl
theorem zmr:zdt TP 169=some [(0,1),(1,1)]:=by kernel_rfl
theorem zwx:zdt TP 178=some [(0,1)]:=by kernel_rfl
theorem zfx:zdt TP 199=some [(0,1),(1,1)]:=by kernel_rfl
theorem zwW:zdt TP 215=some [(0,1),(1,1)]:=by kernel_rfl
theorem zpw:zdt TP 294=some [(0,1),(1,1),(2,1)]:=by kernel_rfl
theorem zna:zdt TP 303=some [(0,1),(1,1)]:=by kernel_rfl
theorem zmv:zdt TP 310=some [(0,1),(1,1)]:=by kernel_rfl
theorem zxi:zdt TP 327=some [(0,3)]:=by kernel_rfl
theorem zAF:zdt TP 333=some [(0,1)]:=by kernel_rfl
theorem zzs:zdt TP 384=some [(0,1),(1,1)]:=by kernel_rfl
theorem zmt:zdt TP 410=some [(0,1),(1,1)]:=by kernel_rfl
theorem zo6:zdt TP 412=some [(0,1),(1,1),(2,1)]:=by kernel_rfl
theorem zir:zon TP 25=true:=by kernel_rfl
theorem zkp:zon TP 52=true:=by kernel_rfl
theorem zlk:zon TP 120=true:=by kernel_rfl
theorem zic:zbm TP 22=some 39:=by kernel_rfl
theorem zaJ:zbm TP 31=some 114:=by kernel_rfl
theorem zaA:zbm TP 32=some 3:=by kernel_rfl
theorem za6:zbm TP 33=some 32:=by kernel_rfl
theorem yA:zbm TP 36=some 111:=by kernel_rfl
theorem zaE:zbm TP 37=some 78:=by kernel_rfl
theorem zcx:zbm TP 46=some 98:=by kernel_rfl
theorem zcB:zbm TP 65=some 36:=by kernel_rfl
theorem zeF:zbm TP 105=some 9:=by kernel_rfl
theorem ze7:zbm TP 121=some 126:=by kernel_rfl
theorem zsr:zbm TP 127=some 137:=by kernel_rfl
theorem ziS:zbm TP 172=some 176:=by kernel_rfl
theorem za7:zbm TP 173=some 176:=by kernel_rfl
theorem zjo:zbm TP 175=some 215:=by kernel_rfl
theorem yy:zbm TP 176=some 215:=by kernel_rfl
theorem yY:zbm TP 224=some 5:=by kernel_rfl
theorem zms:zbm TP 286=some 2:=by kernel_rfl
theorem znC:zbm TP 287=some 109:=by kernel_rfl
theorem zpx:zbm TP 331=some 5:=by kernel_rfl
theorem zxv:zbm TP 382=some 5:=by kernel_rfl
theorem znH:zbm TP 399=some 33:=by kernel_rfl
theorem zmj:zbm TP 415=some 173:=by kernel_rfl
theorem st9:ziv TP 9=true:=by kernel_rfl
theorem sz2:zal TP 2=some 1:=by kernel_rfl
theorem sz3:zal TP 3=some 1:=by kernel_rfl
theorem sz4:zal TP 4=some 1:=by kernel_rfl
theorem sz5:zal TP 5=some 1:=by kernel_rfl
theorem sz9:zal TP 9=some 1:=by kernel_rfl
theorem zoV:zal TP 28=some 1:=by kernel_rfl
theorem zg0:zal TP 32=some 1:=by kernel_rfl
theorem zxE:zal TP 33=some 1:=by kernel_rfl
theorem zbo:zal TP 35=some 3:=by kernel_rfl
theorem zew:zal TP 36=some 1:=by kernel_rfl
theorem zDb:zal TP 37=some 1:=by kernel_rfl
theorem za5:zal TP 39=some 8:=by kernel_rfl
theorem zad:zal TP 48=some 1:=by kernel_rfl
theorem zvc:zal TP 52=some 1:=by kernel_rfl
theorem zAb:zal TP 65=some 1:=by kernel_rfl
theorem yM:zal TP 67=some 4:=by kernel_rfl
theorem zch:zal TP 78=some 2:=by kernel_rfl
theorem zCt:zal TP 81=some 1:=by kernel_rfl
theorem zfE:zal TP 98=some 5:=by kernel_rfl
theorem zwB:zal TP 105=some 1:=by kernel_rfl
theorem zkQ:zal TP 109=some 1:=by kernel_rfl
theorem ym:zal TP 111=some 4:=by kernel_rfl
theorem y8:zal TP 114=some 4:=by kernel_rfl
theorem zxm:zal TP 121=some 1:=by kernel_rfl
theorem zcU:zal TP 126=some 2:=by kernel_rfl
theorem zdN:zal TP 137=some 3:=by kernel_rfl
theorem zjC:zal TP 173=some 1:=by kernel_rfl
theorem zbO:zal TP 176=some 1:=by kernel_rfl
theorem zmV:zal TP 189=some 3:=by kernel_rfl
theorem zat:zal TP 215=some 2:=by kernel_rfl
theorem ztJ:zal TP 224=some 1:=by kernel_rfl
theorem ztA:zal TP 303=some 2:=by kernel_rfl
theorem ztY:zal TP 327=some 3:=by kernel_rfl
theorem zCs:zal TP 331=some 1:=by kernel_rfl
theorem zz0:zal TP 382=some 1:=by kernel_rfl
theorem zAD:zal TP 384=some 2:=by kernel_rfl
theorem zlY:zal TP 397=some 2:=by kernel_rfl
theorem zkY:zal TP 412=some 3:=by kernel_rfl
theorem zzU:zal TP 443=some 1:=by kernel_rfl
theorem zr2:zas TP 2=some (Ii 0):=by kernel_rfl
theorem zr3:zas TP 3=some (Ii 0):=by kernel_rfl
theorem zr4:zas TP 4=some (.bool false):=by kernel_rfl
theorem zr5:zas TP 5=some (.int .u8 0):=by kernel_rfl
theorem zr9:zas TP 9=some (.string ⟨#[]⟩):=by kernel_rfl
theorem zvD:zas TP 28=some (Ii 0):=by kernel_rfl
theorem zCG:zas TP 32=some (.slice none 0 0):=by kernel_rfl
theorem zCN:zas TP 33=some (.slice none 0 0):=by kernel_rfl
theorem zzF:zas TP 35=some (.agg #[.slice none 0 0,.slice none 0 0,.slice none 0 0]):=by kernel_rfl
theorem zBZ:zas TP 36=some (.slice none 0 0):=by kernel_rfl
theorem zhW:zas TP 39=some (.agg #[Ii 0,.string ⟨#[]⟩,.slice none 0 0,.slice none 0 0,.slice none 0 0,.slice none 0 0,.slice none 0 0,.slice none 0 0]):=by kernel_rfl
theorem zjq:zas TP 48=some (.agg #[.slice none 0 0]):=by kernel_rfl
theorem zmO:zas TP 52=some (.pointer none):=by kernel_rfl
theorem zgT:zas TP 67=some (.agg #[.slice none 0 0,.slice none 0 0,.slice none 0 0,.slice none 0 0]):=by kernel_rfl
theorem zn5:zas TP 78=some (.agg #[.string ⟨#[]⟩,.string ⟨#[]⟩]):=by kernel_rfl
theorem zDa:zas TP 83=some (.agg #[.map none]):=by kernel_rfl
theorem zCM:zas TP 88=some (.nilFunc):=by kernel_rfl
theorem zBb:zas TP 98=some (.agg #[.string ⟨#[]⟩,.slice none 0 0,.slice none 0 0,.slice none 0 0,.slice none 0 0]):=by kernel_rfl
theorem zwH:zas TP 105=some (.slice none 0 0):=by kernel_rfl
theorem zAQ:zas TP 109=some (.int .u64 0):=by kernel_rfl
theorem zc2:zas TP 111=some (.agg #[Ii 0,Ii 0,.int .u64 0,.string ⟨#[]⟩]):=by kernel_rfl
theorem zln:zas TP 114=some (.agg #[.string ⟨#[]⟩,Ii 0,Ii 0,.bool false]):=by kernel_rfl
theorem zrK:zas TP 123=some (.agg #[.pointer none,.slice none 0 0,.slice none 0 0,.slice none 0 0,.slice none 0 0]):=by kernel_rfl
theorem zjr:zas TP 126=some (.agg #[.slice none 0 0,.pointer none]):=by kernel_rfl
theorem zAd:zas TP 127=some (.slice none 0 0):=by kernel_rfl
theorem zf9:zas TP 137=some (.agg #[.nilFunc,.nilFunc,.nilFunc]):=by kernel_rfl
theorem znx:zas TP 169=some (.agg #[.string ⟨#[]⟩,.nilIface]):=by kernel_rfl
theorem zww:zas TP 173=some (.slice none 0 0):=by kernel_rfl
theorem zwS:zas TP 176=some (.slice none 0 0):=by kernel_rfl
theorem zxa:zas TP 178=some (.agg #[.slice none 0 0]):=by kernel_rfl
theorem zBR:zas TP 189=some (.agg #[.pointer none,.pointer none,.int .u64 0]):=by kernel_rfl
theorem zfy:zas TP 199=some (.agg #[.string ⟨#[]⟩,.nilIface]):=by kernel_rfl
theorem zm9:zas TP 215=some (.agg #[.string ⟨#[]⟩,.string ⟨#[]⟩]):=by kernel_rfl
theorem zzV:zas TP 224=some (.slice none 0 0):=by kernel_rfl
theorem zs9:zas TP 260=some (.nilIface):=by kernel_rfl
theorem zjW:zas TP 263=some (.nilIface):=by kernel_rfl
theorem zB1:zas TP 265=some (.nilIface):=by kernel_rfl
theorem zk5:zas TP 294=some (.agg #[.nilFunc,.nilFunc,.nilFunc]):=by kernel_rfl
theorem zf1:zas TP 303=some (.agg #[.nilFunc,.nilFunc]):=by kernel_rfl
theorem zkK:zas TP 310=some (.agg #[.nilFunc,.nilFunc]):=by kernel_rfl
theorem zwq:zas TP 327=some (.agg #[.slice none 0 0,.slice none 0 0,.slice none 0 0]):=by kernel_rfl
theorem zCp:zas TP 333=some (.agg #[.slice none 0 0]):=by kernel_rfl
theorem zwr:zas TP 384=some (.agg #[.slice none 0 0,Ii 0]):=by kernel_rfl
theorem zp6:zas TP 393=some (.nilIface):=by kernel_rfl
theorem zmo:zas TP 397=some (.agg #[.slice none 0 0,.slice none 0 0]):=by kernel_rfl
theorem zmx:zas TP 410=some (.agg #[.string ⟨#[]⟩,.nilIface]):=by kernel_rfl
theorem zd4:zas TP 412=some (.agg #[.nilFunc,Ii 0,.nilFunc]):=by kernel_rfl
theorem zzW:zas TP 426=some (.agg #[.int .u8 0,.int .u8 0,.int .u8 0,.int .u8 0,.int .u8 0,.int .u8 0,.int .u8 0,.int .u8 0,.int .u8 0]):=by kernel_rfl
theorem zzb:zas TP 443=some (.nilFunc):=by kernel_rfl
theorem zCO:App TP 22 39 8 168 (.agg #[Ii 0,.string ⟨#[]⟩,.slice none 0 0,.slice none 0 0,.slice none 0 0,.slice none 0 0,.slice none 0 0,.slice none 0 0]):=⟨zic,za5,zhW,by as_aux_lemma=>kernel_rfl,rfl,by simp[Value.cells,Value.oneCell'],by decide⟩
theorem zDp:App TP 31 114 4 40 (.agg #[.string ⟨#[]⟩,Ii 0,Ii 0,.bool false]):=⟨zaJ,y8,zln,by as_aux_lemma=>kernel_rfl,rfl,by simp[Value.cells,Value.oneCell'],by decide⟩
theorem zye:App TP 32 3 1 8 (Ii 0):=⟨zaA,sz3,zr3,by as_aux_lemma=>kernel_rfl,rfl,by simp[Value.cells,Value.oneCell'],by decide⟩
theorem zto:App TP 33 32 1 24 (.slice none 0 0):=⟨za6,zg0,zCG,by as_aux_lemma=>kernel_rfl,rfl,by simp[Value.cells,Value.oneCell'],by decide⟩
theorem zjD:App TP 36 111 4 40 (.agg #[Ii 0,Ii 0,.int .u64 0,.string ⟨#[]⟩]):=⟨yA,ym,zc2,by as_aux_lemma=>kernel_rfl,rfl,by simp[Value.cells,Value.oneCell'],by decide⟩
theorem zAe:App TP 37 78 2 32 (.agg #[.string ⟨#[]⟩,.string ⟨#[]⟩]):=⟨zaE,zch,zn5,by as_aux_lemma=>kernel_rfl,rfl,by simp[Value.cells,Value.oneCell'],by decide⟩
theorem zor:App TP 46 98 5 112 (.agg #[.string ⟨#[]⟩,.slice none 0 0,.slice none 0 0,.slice none 0 0,.slice none 0 0]):=⟨zcx,zfE,zBb,by as_aux_lemma=>kernel_rfl,rfl,by simp[Value.cells,Value.oneCell'],by decide⟩
theorem zo0:App TP 65 36 1 24 (.slice none 0 0):=⟨zcB,zew,zBZ,by as_aux_lemma=>kernel_rfl,rfl,by simp[Value.cells,Value.oneCell'],by decide⟩
theorem zxc:App TP 105 9 1 16 (.string ⟨#[]⟩):=⟨zeF,sz9,zr9,by as_aux_lemma=>kernel_rfl,rfl,by simp[Value.cells,Value.oneCell'],by decide⟩
theorem zpj:App TP 121 126 2 32 (.agg #[.slice none 0 0,.pointer none]):=⟨ze7,zcU,zjr,by as_aux_lemma=>kernel_rfl,rfl,by simp[Value.cells,Value.oneCell'],by decide⟩
theorem zkL:App TP 127 137 3 24 (.agg #[.nilFunc,.nilFunc,.nilFunc]):=⟨zsr,zdN,zf9,by as_aux_lemma=>kernel_rfl,rfl,by simp[Value.cells,Value.oneCell'],by decide⟩
theorem ziy:App TP 172 176 1 24 (.slice none 0 0):=⟨ziS,zbO,zwS,by as_aux_lemma=>kernel_rfl,rfl,by simp[Value.cells,Value.oneCell'],by decide⟩
theorem znz:App TP 173 176 1 24 (.slice none 0 0):=⟨za7,zbO,zwS,by as_aux_lemma=>kernel_rfl,rfl,by simp[Value.cells,Value.oneCell'],by decide⟩
theorem zzO:App TP 175 215 2 32 (.agg #[.string ⟨#[]⟩,.string ⟨#[]⟩]):=⟨zjo,zat,zm9,by as_aux_lemma=>kernel_rfl,rfl,by simp[Value.cells,Value.oneCell'],by decide⟩
theorem ziQ:App TP 176 215 2 32 (.agg #[.string ⟨#[]⟩,.string ⟨#[]⟩]):=⟨yy,zat,zm9,by as_aux_lemma=>kernel_rfl,rfl,by simp[Value.cells,Value.oneCell'],by decide⟩
theorem zbc:App TP 224 5 1 1 (.int .u8 0):=⟨yY,sz5,zr5,by as_aux_lemma=>kernel_rfl,rfl,by simp[Value.cells,Value.oneCell'],by decide⟩
theorem zp1:App TP 286 2 1 8 (Ii 0):=⟨zms,sz2,zr2,by as_aux_lemma=>kernel_rfl,rfl,by simp[Value.cells,Value.oneCell'],by decide⟩
theorem zpr:App TP 287 109 1 8 (.int .u64 0):=⟨znC,zkQ,zAQ,by as_aux_lemma=>kernel_rfl,rfl,by simp[Value.cells,Value.oneCell'],by decide⟩
theorem zzH:App TP 399 33 1 24 (.slice none 0 0):=⟨znH,zxE,zCN,by as_aux_lemma=>kernel_rfl,rfl,by simp[Value.cells,Value.oneCell'],by decide⟩
theorem zBP:App TP 415 173 1 24 (.slice none 0 0):=⟨zmj,zjC,zww,by as_aux_lemma=>kernel_rfl,rfl,by simp[Value.cells,Value.oneCell'],by decide⟩
theorem mix:Tryz.prog.follows .mixedOrders=true:=by kernel_rfl
set_option maxRecDepth 10000
theorem zBQ:zfJ TP 336=some Extern.BytealgCompare.compare:=by kernel_rfl
theorem zmd(s u:By)(w:Wl):(Extern.BytealgCompare.compare #[.string s,.string u]).run TP w=.ok (Ii (zh8 s u)) w:=by
 change Sem.run TP (do pure (goInt (Extern.BytealgCompare.cmp (←Extern.Bytes.bytesOf (.string s)) (←Extern.Bytes.bytesOf (.string u))))) w=_
 simp[Extern.Bytes.bytesOf,goInt,zh8]
theorem f58(s u:By)(w:Wl):zT TP 312 #[.string s,.string u] w fun v w'=>v=Ii (zh8 s u)∧w'=w:=by
 refine zT.of_W (args:=[.string s,.string u]) Tryz.func312 U U U U ?_
 refine Sr (Oa U (E2 0 1 U (Sr (Om U (Om U ?_)))))
 refine Oq (zc1 (P:=TP) (n:=Tryz.f312.ntmps) zBQ U U (zmd _ _ _) U ?_)
 refine Oa U (E1 4 U (zj ?_))
 refine zw U U ?_
 exact⟨U,U⟩
theorem f52(s u:By)(w:Wl):zT TP 231 #[.string s,.string u] w fun v w'=>v=Ii (zh8 s u)∧w'=w:=by
 refine zT.of_W (args:=[.string s,.string u]) Tryz.func231 U U U U ?_
 refine Sr (Oa U (E2 0 1 U (Sr (Om U (Om U ?_)))))
 refine Oc zBH U U U (f58 _ _ _) ?_
 rintro v7 w7⟨rfl,rfl⟩
 refine Oa U (E1 4 U (zj ?_))
 refine zw U U ?_
 exact⟨U,U⟩
abbrev Ent:=By×By
abbrev LE:=List (List Ent)
def flat(es:List Ent):List Va:=es.flatMap fun x=>[.string x.1,.string x.2]
theorem zef(x:Ent)(es:List Ent):flat (x::es)=.string x.1 :: .string x.2::flat es:=rfl
theorem zdR(a b:List Ent):flat (a++b)=flat a++flat b:=by simp[flat]
theorem zgf(es:List Ent):(flat es).length=es.length*2:=by
 induction es with
 |nil=>rfl
 |cons x es ih=>rw[zef];simp only[List.length_cons,ih];omega
theorem zgj(es:List Ent)(i:Nat):flat (es.drop i)=(flat es).drop (i*2):=by
 induction es generalizing i with
 |nil=>simp[flat]
 |cons x es ih=>
  cases i with
  |zero=>simp
  |succ i=>rw[List.drop_succ_cons,ih,zef,show (i+1)*2=(i*2)+1+1 by omega];rfl
theorem zib(es:List Ent)(i:Nat):flat (es.take i)=(flat es).take (i*2):=by
 induction es generalizing i with
 |nil=>simp[flat]
 |cons x es ih=>
  cases i with
  |zero=>simp[flat]
  |succ i=>rw[List.take_succ_cons,zef,ih,zef,show (i+1)*2=(i*2)+1+1 by omega];rfl
theorem znB(es:List Ent):∀u∈flat es,u.oneCell'=true:=by
 intro u hu
 simp only[flat,List.mem_flatMap]at hu
 obtain⟨x,_,hu⟩:=hu
 simp at hu
 rcases hu with rfl|rfl<;>rfl
theorem zvf{es:List Ent}{i:Nat}{x:Ent}(h:es[i]? = some x):((flat es).drop (i*2)).take 2=[.string x.1,.string x.2]:=by
 rw[←zgj]
 have:es.drop i=x::es.drop (i+1):=by
  rw[List.getElem?_eq_some_iff]at h
  obtain⟨hl,rfl⟩:=h
  exact List.drop_eq_getElem_cons hl
 rw[this,zef]
 rfl
def yE(w:Wl)(v:Va)(es:List Ent):Prop:=zA w 215 2 v es.length (flat es)
theorem yE.chg{S:List Nat}{w w':Wl}{v:Va}{es:List Ent}(h:yE w v es)(hc:zk S w w')(hb:∀b∈zu v,b∉S):yE w' v es:=zA.chg h hc hb
theorem yE.chg0{w w':Wl}{v:Va}{es:List Ent}(h:yE w v es)(hc:zk [] w w'):yE w' v es:=zA.chg0 h hc
theorem yE.at'{w:Wl}{v:Va}{es:List Ent}(h:yE w v es){i:Nat}{x:Ent}(hx:es[i]? = some x):∃b off cap,v=.slice (some ⟨b,off,none⟩) es.length cap∧zx w b (off+i*2) [.string x.1,.string x.2]:=by
 have hi:i<es.length:=(Gs hx).1
 obtain⟨b,off,cap,hv,hc⟩:=zA.atk h hi
 rw[zvf hx]at hc
 exact⟨b,off,cap,hv,hc⟩
theorem f41(k x:By)(w:Wl):zT TP 185 #[.agg #[.string k,.string x]] w fun r w'=>r=.string k∧zk [] w w':=by
 refine zT.of_W (args:=[.agg #[.string k,.string x]]) Tryz.func185 U U U U ?_
 refine Sr ?_
 refine Ob U U ?_
 intro b1 w1 e1 n1 c1 k1
 refine Oa U (E1 1 U (Sr (Od zhl U (Ol yH U (k1.cell' U) (Oa U (E1 2 U (zj ?_)))))))
 refine zw U U ?_
 exact⟨U,c1⟩
theorem f49(v:Va)(k x:By)(es:List Ent)(w:Wl)(h:yE w v ((k,x)::es)):zT TP 228 #[v] w fun r w'=>r=.string k∧w'=w:=by
 obtain⟨b,off,cap,rfl,hc⟩:=h.at' (i:=0) rfl
 refine A1 Tryz.func228 U U ?_
 refine Sr (Oa U (E1 0 U (Sr (Om U ?_))))
 refine Og (zi yy zat U U 0 U (by simp)) U ?_
 refine Od zhl U ?_
 refine Ol yH U (hc 0 _ U) ?_
 refine Oa U (E1 2 U (zj ?_))
 refine zw U U ?_
 exact⟨U,U⟩
theorem f51(k x key:By)(b:Nat)(w:Wl)(hb:zO w b 277 [.func (.func 185) #[] #[]]):zT TP 230 #[.agg #[.string k,.string x],.string key,Pt b] w fun r w'=>r=Ii (zh8 k key)∧zk [] w w':=by
 refine A3 Tryz.func230 U U ?_
 refine Sr ?_
 refine Ob U U ?_
 intro b3 w3 e3 n3 c3 k3
 refine Oa U (E3 1 2 3 U (Sr (Ol zAz U ((hb.chg0 c3).cell' U) (Og (zh zpQ zat U U (zx.of_blk0 k3)) U ?_))))
 refine Oc zCg U U U (f41 k x _) ?_
 rintro v8 w8⟨rfl,c8⟩
 refine Om U ?_
 refine Oc zwz U U U (f52 _ _ _) ?_
 rintro v10 w10⟨rfl,rfl⟩
 refine Oa U (E1 5 U (zj ?_))
 refine zw U U ?_
 exact⟨U,c3.trans c8⟩
theorem f57(v:Va)(k x key:By)(es:List Ent)(b:Nat)(w:Wl)(hl:yE w v ((k,x)::es))(hb:zO w b 347 [.func (.func 228) #[] #[]]):zT TP 311 #[v,.string key,Pt b] w fun r w'=>r=Ii (zh8 k key)∧w'=w:=by
 refine A3 Tryz.func311 U U ?_
 refine Sr (Oa U (E3 0 1 2 U (Sr (Ol zBI U (hb.cell' U) (Om U ?_)))))
 refine Oc zzd U U U (f49 _ _ _ _ _ hl) ?_
 rintro v8 w8⟨rfl,rfl⟩
 refine Om U ?_
 refine Oc zwz U U U (f52 _ _ _) ?_
 rintro v10 w10⟨rfl,rfl⟩
 refine Oa U (E1 5 U (zj ?_))
 refine zw U U ?_
 exact⟨U,U⟩
def zoh(ks:List By)(key:By)(i:Nat):Prop:=i≤ks.length∧∀j k,ks[j]? = some k→(blt k key=true↔j<i)
def zqW(ks:List By)(key:By):Prop:=∀(i j:Nat) (a b:By),i≤j→ks[i]? = some a→ks[j]? = some b→blt b key=true→blt a key=true
def zcd(ks:List By)(key:By)(lo hi:Nat):Prop:=lo≤hi∧hi≤ks.length∧(∀(j:Nat) (k:By),j<lo→ks[j]? = some k→blt k key=true)∧(∀(j:Nat) (k:By),hi≤j→ks[j]? = some k→blt k key=false)
def zcJ(ks:List By)(key:By)(i:Nat):Bool:=match ks[i]? with|some k=>decide (k=key)|none=>false
theorem zcd.start(ks:List By)(key:By):zcd ks key 0 ks.length:=
 ⟨Nat.zero_le _,Nat.le_refl _,fun j k h=>by omega,fun j k h hk=>by simp[List.getElem?_eq_none h]at hk⟩
theorem zcd.low{ks:List By}{key k:By}{lo hi h:Nat}(hb:zcd ks key lo hi)(hm:zqW ks key)(h1:lo≤h)(h2:h<hi)(hk:ks[h]? = some k)(hlt:blt k key=true):zcd ks key (h+1) hi:=
 ⟨by omega,hb.2.1,fun j a hj ha=>hm j h a k (by omega) ha hk hlt,hb.2.2.2⟩
theorem zcd.high{ks:List By}{key k:By}{lo hi h:Nat}(hb:zcd ks key lo hi)(hm:zqW ks key)(h1:lo≤h)(h2:h<hi)(hk:ks[h]? = some k)(hlt:blt k key=false):zcd ks key lo h:=
 ⟨h1,by have:=hb.2.1;omega,hb.2.2.1,fun j a hj ha=>by
  cases hx:blt a key with
  |false=>rfl
  |true=>rw[hm h j k a hj hk ha hx]at hlt;cases hlt⟩
theorem zcd.done{ks:List By}{key:By}{lo hi:Nat}(hb:zcd ks key lo hi)(he:hi≤lo):zoh ks key lo:=by
 have:lo=hi:=by have:=hb.1;omega
 subst this
 refine⟨hb.2.1,fun j k hk=>⟨fun h=>?_,fun h=>hb.2.2.1 j k h hk⟩⟩
 rcases Nat.lt_or_ge j lo with h'|h'
 ·exact h'
 rw[hb.2.2.2 j k h' hk]at h;cases h
theorem zql{lo hi:Nat}(h:lo<hi):lo≤(lo+hi) / 2∧(lo+hi) / 2<hi:=by omega
theorem f50(v:Va)(es:List Ent)(key:By)(b:Nat)(w:Wl)(hl:yE w v es)(hn:es.length≤4611686018427387903)(hb:zO w b 277 [.func (.func 185) #[] #[]])(hm:zqW (es.map (·.1)) key) :
 zT TP 229 #[v,.string key,.func (.func 230) #[] #[Pt b]] w fun r w'=>∃i:Nat,r=.tuple #[Ii i,.bool (zcJ (es.map (·.1)) key i)]∧zoh (es.map (·.1)) key i∧zk [] w w':=by
 obtain⟨p,c,rfl,_⟩:=hl.val
 refine A3 Tryz.func229 U U ?_
 refine Sr (Oa U (Oa U (E3 0 1 2 U (Sr (Om U (On zjo U (Oa U (E4 0 1 2 8 U (Sr (Om U (Oa U (Oa U ?_))))))))))))
 refine E6 0 1 2 8 9 10 U (zf (zp ?_))
 refine zR [0,1,2,8,9,10] (fun m F wx=>∃lo hi:Nat,m=hi-lo∧F=[(0,.slice p es.length c),(1,.string key),(2,.func (.func 230) #[] #[Pt b]),(8,Ii es.length),(9,Ii lo),(10,Ii hi)]∧zcd (es.map (·.1)) key lo hi∧zk [] w wx) (m:=es.length-0) ⟨0,es.length,rfl,rfl,by simpa using zcd.start (es.map (·.1)) key,zk.refl _ _⟩ ?_
 rintro m F wx⟨lo,hi,rfl,rfl,hbt,hcx⟩
 have hle:=hbt.2.1
 rw[List.length_map]at hle
 refine zf (Sr (Om U (Om U (Og (zy U U) U (E7 0 1 2 8 9 10 17 U ?_)))))
 refine zP U (fun hT=>?_) (fun hF=>?_)
 ·refine zm ?_
  have hlt:lo<hi:=by simpa using hT
  have hh:=zql hlt
  have hk:es[(lo+hi) / 2]? = some es[(lo+hi) / 2]:=by simp
  have hlw:=hl.chg0 hcx
  obtain⟨bb,off,cap,hv,hcs⟩:=hlw.at' hk
  cases hv
  refine zp (Sr (Om U (Om U ?_)))
  refine Og (zG U U (by omega)) U ?_
  refine Og (yh zdu zaw U (show IntKind.u64.wrap ((lo:Int)+(hi:Int))=((lo+hi:Nat):Int) from by rw[IntWalk.u64_in _ ⟨by omega,by omega⟩];omega)) U ?_
  refine Og (zcn 1 U U (by omega) (by decide) (show ((lo+hi:Nat):Int).fdiv 2=(((lo+hi) / 2:Nat):Int) from by rw[Int.fdiv_eq_ediv_of_nonneg _ (by omega)];omega)) U ?_
  refine Og (yh zaw zdu U (show IntKind.i64.wrap (((lo+hi) / 2:Nat):Int)=(((lo+hi) / 2:Nat):Int) from IntWalk.i64_in _ ⟨by omega,by omega⟩)) U ?_
  refine Oa U (E7 0 1 2 8 9 10 11 U (Sr (Om U (Om U (Om U ?_)))))
  refine Og (zi zjo zat U U _ U (by omega)) U ?_
  refine Og (zh zpQ zat U U hcs) U (Om U ?_)
  refine Oc zwo U U U (f51 _ _ key b _ (hb.chg0 hcx)) ?_
  rintro v30 w30⟨rfl,c30⟩
  refine Og (zy U U) U (E8 0 1 2 8 9 10 11 31 U ?_)
  have hkm:(es.map (·.1))[(lo+hi) / 2]? = some es[(lo+hi) / 2].1:=by rw[List.getElem?_map,hk];rfl
  refine zP U (fun hT=>?_) (fun hF=>?_)
  ·have hlt2:=(zjb _ _).1 (of_decide_eq_true hT)
   refine za (Om U ?_)
   refine Og (zG U U (by omega)) U ?_
   refine Oa U (N6 0 1 2 8 9 10 U ?_)
   refine⟨hi-((lo+hi) / 2+1),by omega,(lo+hi) / 2+1,hi,rfl,rfl,hbt.low hm hh.1 hh.2 hkm hlt2,hcx.trans c30⟩
  have hlt2:blt es[(lo+hi) / 2].1 key=false:=by
   cases hx:blt es[(lo+hi) / 2].1 key with
   |false=>rfl
   |true=>have:=(zjb _ _).2 hx;simp at hF;omega
  refine za (Om U (Oa U (N6 0 1 2 8 9 10 U ?_)))
  refine⟨(lo+hi) / 2-lo,by omega,lo,(lo+hi) / 2,rfl,rfl,hbt.high hm hh.1 hh.2 hkm hlt2,hcx.trans c30⟩
 refine zH ?_
 repeat first|refine te ?_|refine bo rfl ?_
 refine zq _ ?_
 have hge:hi≤lo:=by simpa using hF
 have hlb:=hbt.done hge
 refine zf ?_
 by_cases hlt:lo<es.length
 ·have hk:es[lo]? = some es[lo]:=by simp
  have hlw:=hl.chg0 hcx
  obtain⟨bb,off,cap,hv,hcs⟩:=hlw.at' hk
  cases hv
  have hhas:zcJ (es.map (·.1)) key lo=decide (zh8 es[lo].1 key=0):=by
   simp only[zcJ,List.getElem?_map,hk,Option.map_some]
   exact decide_eq_decide.2 (zp8 _ _).symm
  refine za (Om U (Om U (Om U ?_)))
  refine Og (vt (zy U U) (by simpa using hlt)) U ?_
  refine Om U (Oj U U (Oj U U (Oj U U ?_)))
  refine Oy U U (zi zjo zat U U _ U hlt) ?_
  refine Oy U U (zh zpQ zat U U hcs) (Oj U U ?_)
  refine Ow U U zwo U U U (f51 _ _ key b _ (hb.chg0 hcx)) ?_
  rintro v46 w46⟨rfl,c46⟩
  refine Oy U U (zxn (zv U U) hhas.symm) (Ot U (Oa U (Oa U (E2 6 7 U (zj ?_)))))
  refine zcg U U U ?_
  exact⟨lo,U,hlb,hcx.trans c46⟩
 have hhas:zcJ (es.map (·.1)) key lo=false:=by
  simp only[zcJ,List.getElem?_map,List.getElem?_eq_none (Nat.not_lt.1 hlt),Option.map_none]
 refine za (Om U (Om U (Om U ?_)))
 refine Og (vf (zy U U) (by simpa using hlt)) U ?_
 refine Om U ?_
 iterate 8 refine zen U U U U U U ?_
 refine Of U (Oa U (Oa U (E2 6 7 U (zj ?_))))
 refine zcg U U U ?_
 exact⟨lo,by rw[hhas],hlb,hcx⟩
def yO(l:List Ent):By:=match l with|x::_=>x.1|[]=>⟨#[]⟩
def lbN(l:List Ent)(key:By):Nat:=(l.takeWhile fun x=>blt x.1 key).length
def zep(l:List Ent)(key:By):Bool:=zcJ (l.map (·.1)) key (lbN l key)
def yN(ls:LE)(key:By):Nat:=(ls.takeWhile fun l => !blt key (yO l)).length
def Srt(l:List Ent):Prop:=l.Pairwise fun a b=>blt a.1 b.1=true
theorem zcF{α:Type}(p:α→Bool):∀(l:List α) (i:Nat),i≤l.length→(∀j k,l[j]? = some k→(p k=true↔j<i))→(l.takeWhile p).length=i
 |[],i,h,_=>by simp at h;simp[h]
 |x::l,i,h,hp=>by
  have h0:=hp 0 x rfl
  cases i with
  |zero=>
   have:p x=false:=by
    cases hx:p x with
    |false=>rfl
    |true=>have:=h0.1 hx;omega
   simp[List.takeWhile,this]
  |succ i=>
   have:p x=true:=h0.2 (by omega)
   have ih:=zcF p l i (by simpa using h) (fun j k hk=>by
    have:=hp (j+1) k (by simpa using hk)
    rw[this];omega)
   simp[List.takeWhile,this,ih]
theorem zoh.eq{l:List Ent}{key:By}{i:Nat}(h:zoh (l.map (·.1)) key i):i=lbN l key:=by
 refine(zcF _ l i (by simpa using h.1) (fun j k hk=>?_)).symm
 exact h.2 j k.1 (by rw[List.getElem?_map,hk];rfl)
theorem Srt.at{l:List Ent}(h:Srt l){i j:Nat}{a b:Ent}(hij:i<j)(ha:l[i]? = some a)(hb:l[j]? = some b):blt a.1 b.1=true:=by
 obtain⟨h1,rfl⟩:=Gs ha
 obtain⟨h2,rfl⟩:=Gs hb
 exact List.pairwise_iff_getElem.1 h i j h1 h2 hij
theorem Srt.mono{l:List Ent}(h:Srt l)(key:By):zqW (l.map (·.1)) key:=by
 intro i j a b hij ha hb hlt
 rw[List.getElem?_map]at ha hb
 cases hx:l[i]? with
 |none=>simp[hx]at ha
 |some x=>
  cases hy:l[j]? with
  |none=>simp[hy]at hb
  |some y=>
   simp[hx]at ha;simp[hy]at hb
   subst ha hb
   rcases Nat.lt_or_ge i j with h'|h'
   ·exact zdB (h.at h' hx hy) hlt
   have:i=j:=by omega
   subst this
   rw[hx]at hy
   simp at hy
   subst hy
   exact hlt
def zkq(ls:LE):Prop:=ls.Pairwise fun a b=>blt (yO a) (yO b)=true
theorem zkq.at{ls:LE}(h:zkq ls){i j:Nat}{a b:List Ent}(hij:i<j)(ha:ls[i]? = some a)(hb:ls[j]? = some b):blt (yO a) (yO b)=true:=by
 obtain⟨h1,rfl⟩:=Gs ha
 obtain⟨h2,rfl⟩:=Gs hb
 exact List.pairwise_iff_getElem.1 h i j h1 h2 hij
theorem zkq.mono{ls:LE}(h:zkq ls)(key:By):zqW (ls.map yO) key:=by
 intro i j a b hij ha hb hlt
 rw[List.getElem?_map]at ha hb
 cases hx:ls[i]? with
 |none=>simp[hx]at ha
 |some x=>
  cases hy:ls[j]? with
  |none=>simp[hy]at hb
  |some y=>
   simp[hx]at ha;simp[hy]at hb
   subst ha hb
   rcases Nat.lt_or_ge i j with h'|h'
   ·exact zdB (h.at h' hx hy) hlt
   have:i=j:=by omega
   subst this
   rw[hx]at hy
   simp at hy
   subst hy
   exact hlt
theorem zuI{ls:LE}{key:By}{i:Nat}(hs:zkq ls)(h:zoh (ls.map yO) key i):(yN ls key-1:Nat)=(if zcJ (ls.map yO) key i then i else i-1):=by
 have hle:i≤ls.length:=by simpa using h.1
 have key1:∀j k,ls[j]? = some k→j<i→blt key (yO k)=false:=fun j k hk hj=>
  zdo ((h.2 j (yO k) (by rw[List.getElem?_map,hk];rfl)).2 hj)
 have key2:∀j k,ls[j]? = some k→i≤j→blt (yO k) key=false:=fun j k hk hj=>by
  cases hx:blt (yO k) key with
  |false=>rfl
  |true=>have:=(h.2 j (yO k) (by rw[List.getElem?_map,hk];rfl)).1 hx;omega
 by_cases hh:zcJ (ls.map yO) key i=true
 ·rw[if_pos hh]
  unfold zcJ at hh
  rw[List.getElem?_map]at hh
  cases hx:ls[i]? with
  |none=>simp[hx]at hh
  |some x=>
   simp[hx]at hh
   have hil:=(Gs hx).1
   have:yN ls key=i+1:=by
    refine zcF _ ls (i+1) (by omega) (fun j k hk=>?_)
    rw[Bool.not_eq_true']
    constructor
    ·intro h1
     rcases Nat.lt_or_ge j (i+1) with h'|h'
     ·exact h'
     have:=hs.at (show i<j by omega) hx hk
     rw[hh,h1]at this;cases this
    intro h1
    rcases Nat.lt_or_ge j i with h'|h'
    ·exact key1 j k hk h'
    have:j=i:=by omega
    subst this
    rw[hx]at hk;simp at hk;subst hk
    rw[hh];exact zaD _
   rw[this];simp
 rw[if_neg hh]
 have:yN ls key=i:=by
  refine zcF _ ls i hle (fun j k hk=>?_)
  rw[Bool.not_eq_true']
  constructor
  ·intro h1
   rcases Nat.lt_or_ge j i with h'|h'
   ·exact h'
   exfalso
   have h2:=key2 j k hk h'
   have he:=ze5 h2 h1
   rcases Nat.lt_or_ge i j with h3|h3
   ·have hil:i<ls.length:=by have:=(Gs hk).1;omega
    have hx:ls[i]? = some ls[i]:=by simp[hil]
    have h4:=hs.at h3 hx hk
    rw[he]at h4
    rw[key2 i _ hx (Nat.le_refl _)]at h4;cases h4
   have:j=i:=by omega
   subst this
   apply hh
   unfold zcJ
   rw[List.getElem?_map,hk]
   simp[he]
  intro h1;exact key1 j k hk h1
 rw[this]
def zbN(w:Wl):List Va→LE→Prop
 |[],[]=>True
 |v::vs,l::ls=>yE w v l∧zbN w vs ls
 |_,_=>False
theorem zbN.at{w:Wl}:∀{vs:List Va} {ls:LE} {i:Nat} {l:List Ent},zbN w vs ls→ls[i]? = some l→∃v,vs[i]? = some v∧yE w v l
 |[],[],_,_,_,h=>by simp at h
 |v::vs,l::ls,0,l',h,hi=>by simp at hi;subst hi;exact⟨v,rfl,h.1⟩
 |v::vs,l::ls,i+1,l',h,hi=>by simpa using h.2.at (by simpa using hi)
theorem zbN.append{w:Wl}:∀{vs us:List Va} {ls ms:LE},zbN w vs ls→zbN w us ms→zbN w (vs++us) (ls++ms)
 |[],_,[],_,_,h=>h
 |_::_,_,_::_,_,h,h'=>⟨h.1,h.2.append h'⟩
theorem zbN.take{w:Wl}:∀{vs:List Va} {ls:LE} (i:Nat),zbN w vs ls→zbN w (vs.take i) (ls.take i)
 |_,_,0,_=>by simp[zbN]
 |[],[],_+1,_=>by simp[zbN]
 |_::_,_::_,i+1,h=>⟨h.1,h.2.take i⟩
theorem zbN.drop{w:Wl}:∀{vs:List Va} {ls:LE} (i:Nat),zbN w vs ls→zbN w (vs.drop i) (ls.drop i)
 |_,_,0,h=>h
 |[],[],_+1,_=>by simp[zbN]
 |_::_,_::_,i+1,h=>by simpa using h.2.drop i
theorem zbN.chg{S:List Nat}{w w':Wl}(hc:zk S w w'):∀{vs:List Va} {ls:LE},(∀v∈vs,∀b∈zu v,b∉S)→zbN w vs ls→zbN w' vs ls
 |[],[],_,_=>trivial
 |v::vs,l::ls,hb,h=>⟨h.1.chg hc (hb v (by simp)),zbN.chg hc (fun u hu=>hb u (by simp[hu])) h.2⟩
theorem zbN.apart{w:Wl}{b:Nat}{e:TypeId}{c:List Va}(hb:zO w b e c)(hne:Nat.beq 215 e=false):∀{vs:List Va} {ls:LE},zbN w vs ls→∀v∈vs,∀x∈zu v,x∉[b]
 |[],[],_,v,hv=>by simp at hv
 |v::vs,l::ls,h,u,hu=>by
  rcases List.mem_cons.1 hu with rfl|hu
  ·exact zA.apart h.1 hb hne
  exact zbN.apart hb hne h.2 u hu
def yJ(w:Wl)(v:Va)(ls:LE):Prop:=∃vs,zA w 176 1 v ls.length vs∧zbN w vs ls
theorem yJ.chg0{w w':Wl}{v:Va}{ls:LE}(h:yJ w v ls)(hc:zk [] w w'):yJ w' v ls:=
 let ⟨vs,h1,h2⟩:=h; ⟨vs,h1.chg0 hc,h2.chg hc (by simp)⟩
theorem yJ.chg1{w w':Wl}{v:Va}{ls:LE}(h:yJ w v ls){b:Nat}{e:TypeId}{c:List Va}(hb:zO w b e c)(h1:Nat.beq 176 e=false)(h2:Nat.beq 215 e=false)(hc:zk [b] w w'):yJ w' v ls:=
 let ⟨vs,g1,g2⟩:=h; ⟨vs,g1.chg hc (g1.apart hb h1),g2.chg hc (g2.apart hb h2)⟩
theorem yJ.at{w:Wl}{v:Va}{ls:LE}(h:yJ w v ls){i:Nat}{l:List Ent}(hi:ls[i]? = some l):∃b off cap u,v=.slice (some ⟨b,off,none⟩) ls.length cap∧w.cell? ⟨b,off+i*1,none⟩=some u∧yE w u l:=by
 obtain⟨vs,h1,h2⟩:=h
 obtain⟨b,off,cap,u,hv,hu,hc⟩:=h1.at1 (Gs hi).1
 obtain⟨u',hu',hl⟩:=h2.at hi
 rw[hu]at hu'
 simp at hu'
 subst hu'
 exact⟨b,off,cap,u,hv,hc,hl⟩
theorem f56(v:Va)(ls:LE)(key:By)(b:Nat)(w:Wl)(hl:yJ w v ls)(hne:∀l∈ls,l≠[])(hn:ls.length≤4611686018427387903)(hb:zO w b 347 [.func (.func 228) #[] #[]])(hm:zqW (ls.map yO) key) :
 zT TP 310 #[v,.string key,.func (.func 311) #[] #[Pt b]] w fun r w'=>∃i:Nat,r=.tuple #[Ii i,.bool (zcJ (ls.map yO) key i)]∧zoh (ls.map yO) key i∧w'=w:=by
 obtain⟨vs,hsl,hal⟩:=id hl
 obtain⟨p,c,rfl,_⟩:=hsl.val
 have call:∀(i:Nat) (l:List Ent),ls[i]? = some l→∃bb off u,p=some ⟨bb,off,none⟩∧w.cell? ⟨bb,off+i*1,none⟩=some u∧zT TP 311 #[u,.string key,Pt b] w fun r w'=>r=Ii (zh8 (yO l) key)∧w'=w:=by
  intro i l hi
  obtain⟨bb,off,cap,u,hv,hc,hl'⟩:=hl.at hi
  simp only[Value.slice.injEq]at hv
  refine⟨bb,off,u,hv.1,hc,?_⟩
  cases l with
  |nil=>exact absurd rfl (hne [] (List.mem_of_getElem? hi))
  |cons x l=>exact f57 u x.1 x.2 key l b w hl' hb
 refine A3 Tryz.func310 U U ?_
 refine Sr (Oa U (Oa U (E3 0 1 2 U (Sr (Om U (On ziS U (Oa U (E4 0 1 2 8 U (Sr (Om U (Oa U (Oa U ?_))))))))))))
 refine E6 0 1 2 8 9 10 U (zf (zp ?_))
 refine zR [0,1,2,8,9,10] (fun m F wx=>wx=w∧∃lo hi:Nat,m=hi-lo∧F=[(0,.slice p ls.length c),(1,.string key),(2,.func (.func 311) #[] #[Pt b]),(8,Ii ls.length),(9,Ii lo),(10,Ii hi)]∧zcd (ls.map yO) key lo hi) (m:=ls.length-0) ⟨rfl,0,ls.length,rfl,rfl,by simpa using zcd.start (ls.map yO) key⟩ ?_
 rintro m F wx⟨rfl,lo,hi,rfl,rfl,hbt⟩
 have hle:=hbt.2.1
 rw[List.length_map]at hle
 refine zf (Sr (Om U (Om U (Og (zy U U) U (E7 0 1 2 8 9 10 17 U ?_)))))
 refine zP U (fun hT=>?_) (fun hF=>?_)
 ·refine zm ?_
  have hlt:lo<hi:=by simpa using hT
  have hh:=zql hlt
  have hk:ls[(lo+hi) / 2]? = some ls[(lo+hi) / 2]:=by simp
  obtain⟨bb,off,u,rfl,hcs,hret⟩:=call _ _ hk
  refine zp (Sr (Om U (Om U ?_)))
  refine Og (zG U U (by omega)) U ?_
  refine Og (yh zdu zaw U (show IntKind.u64.wrap ((lo:Int)+(hi:Int))=((lo+hi:Nat):Int) from by rw[IntWalk.u64_in _ ⟨by omega,by omega⟩];omega)) U ?_
  refine Og (zcn 1 U U (by omega) (by decide) (show ((lo+hi:Nat):Int).fdiv 2=(((lo+hi) / 2:Nat):Int) from by rw[Int.fdiv_eq_ediv_of_nonneg _ (by omega)];omega)) U ?_
  refine Og (yh zaw zdu U (show IntKind.i64.wrap (((lo+hi) / 2:Nat):Int)=(((lo+hi) / 2:Nat):Int) from IntWalk.i64_in _ ⟨by omega,by omega⟩)) U ?_
  refine Oa U (E7 0 1 2 8 9 10 11 U (Sr (Om U (Om U (Om U ?_)))))
  refine Og (zi ziS zbO U U _ U (by omega)) U ?_
  refine Ol zem U hcs (Om U ?_)
  refine Oc zwZ U U U hret ?_
  rintro v30 w30⟨rfl,rfl⟩
  refine Og (zy U U) U (E8 0 1 2 8 9 10 11 31 U ?_)
  have hkm:(ls.map yO)[(lo+hi) / 2]? = some (yO ls[(lo+hi) / 2]):=by rw[List.getElem?_map,hk];rfl
  refine zP U (fun hT=>?_) (fun hF=>?_)
  ·have hlt2:=(zjb _ _).1 (of_decide_eq_true hT)
   refine za (Om U ?_)
   refine Og (zG U U (by omega)) U ?_
   refine Oa U (N6 0 1 2 8 9 10 U ?_)
   refine⟨hi-((lo+hi) / 2+1),by omega,rfl,(lo+hi) / 2+1,hi,rfl,rfl,hbt.low hm hh.1 hh.2 hkm hlt2⟩
  have hlt2:blt (yO ls[(lo+hi) / 2]) key=false:=by
   cases hx:blt (yO ls[(lo+hi) / 2]) key with
   |false=>rfl
   |true=>have:=(zjb _ _).2 hx;simp at hF;omega
  refine za (Om U (Oa U (N6 0 1 2 8 9 10 U ?_)))
  refine⟨(lo+hi) / 2-lo,by omega,rfl,lo,(lo+hi) / 2,rfl,rfl,hbt.high hm hh.1 hh.2 hkm hlt2⟩
 refine zH ?_
 repeat first|refine te ?_|refine bo rfl ?_
 refine zq _ ?_
 have hge:hi≤lo:=by simpa using hF
 have hlb:=hbt.done hge
 refine zf ?_
 by_cases hlt:lo<ls.length
 ·have hk:ls[lo]? = some ls[lo]:=by simp
  obtain⟨bb,off,u,rfl,hcs,hret⟩:=call _ _ hk
  have hhas:zcJ (ls.map yO) key lo=decide (zh8 (yO ls[lo]) key=0):=by
   simp only[zcJ,List.getElem?_map,hk,Option.map_some]
   exact decide_eq_decide.2 (zp8 _ _).symm
  refine za (Om U (Om U (Om U ?_)))
  refine Og (vt (zy U U) (by simpa using hlt)) U ?_
  refine Om U (Oj U U (Oj U U (Oj U U ?_)))
  refine Oy U U (zi ziS zbO U U _ U hlt) ?_
  refine Oy U U (zg zem U hcs) (Oj U U ?_)
  refine Ow U U zwZ U U U hret ?_
  rintro v46 w46⟨rfl,rfl⟩
  refine Oy U U (zxn (zv U U) hhas.symm) (Ot U (Oa U (Oa U (E2 6 7 U (zj ?_)))))
  refine zcg U U U ?_
  exact⟨lo,U,hlb,U⟩
 have hhas:zcJ (ls.map yO) key lo=false:=by
  simp only[zcJ,List.getElem?_map,List.getElem?_eq_none (Nat.not_lt.1 hlt),Option.map_none]
 refine za (Om U (Om U (Om U ?_)))
 refine Og (vf (zy U U) (by simpa using hlt)) U ?_
 refine Om U ?_
 iterate 8 refine zen U U U U U U ?_
 refine Of U (Oa U (Oa U (E2 6 7 U (zj ?_))))
 refine zcg U U U ?_
 exact⟨lo,by rw[hhas],hlb,rfl⟩
theorem f40(v:Va)(es:List Ent)(key:By)(w:Wl)(hl:yE w v es)(hn:es.length≤4611686018427387903)(hs:Srt es) :
 zT TP 184 #[v,.string key,.func (.func 185) #[] #[]] w fun r w'=>r=.tuple #[Ii (lbN es key:Nat),.bool (zep es key)]∧zk [] w w':=by
 refine A3 Tryz.func184 U U ?_
 refine Sr ?_
 refine Ob U U ?_
 intro b5 w5 e5 n5 c5 k5
 refine Oa U (Oa U (E3 0 1 5 U (Sr (Om U (Om U (Og (zai U U) U ?_))))))
 refine Oc zAP U U U (f50 v es key b5 _ (hl.chg0 c5) hn k5 (hs.mono key)) ?_
 rintro v11 w11⟨i,rfl,hlb,c11⟩
 refine Oe U U (Oe U U (Oa U (Oa U (E2 6 7 U (zj ?_)))))
 refine zcg U U U ?_
 have:=hlb.eq
 subst this
 exact⟨U,c5.trans c11⟩
theorem f48(v:Va)(ls:LE)(key:By)(w:Wl)(hl:yJ w v ls)(hne:∀l∈ls,l≠[])(hn:ls.length≤4611686018427387903)(hs:zkq ls) :
 zT TP 227 #[v,.string key,.func (.func 228) #[] #[]] w fun r w'=>∃i:Nat,r=.tuple #[Ii i,.bool (zcJ (ls.map yO) key i)]∧zoh (ls.map yO) key i∧zk [] w w':=by
 refine A3 Tryz.func227 U U ?_
 refine Sr ?_
 refine Ob U U ?_
 intro b5 w5 e5 n5 c5 k5
 refine Oa U (Oa U (E3 0 1 5 U (Sr (Om U (Om U (Og (zai U U) U ?_))))))
 refine Oc zAX U U U (f56 v ls key b5 _ (hl.chg0 c5) hne hn k5 (hs.mono key)) ?_
 rintro v11 w11⟨i,rfl,hlb,rfl⟩
 refine Oe U U (Oe U U (Oa U (Oa U (E2 6 7 U (zj ?_)))))
 refine zcg U U U ?_
 exact⟨i,U,hlb,c5⟩
theorem f39(v:Va)(ls:LE)(key:By)(w:Wl)(hl:yJ w v ls)(hne:∀l∈ls,l≠[])(hn:ls.length≤4611686018427387903)(hs:zkq ls) :
 zT TP 183 #[v,.string key] w fun r w'=>r=Ii (yN ls key-1:Nat)∧zk [] w w':=by
 refine A2 Tryz.func183 U U ?_
 refine Sr (Oa U (E2 0 1 U (Sr (Om U (Om U ?_)))))
 refine Oc zB0 U U U (f48 v ls key _ hl hne hn hs) ?_
 rintro v10 w10⟨i,rfl,hlb,c10⟩
 refine Om U (Oe U U (Oe U U (Oa U (Oa U (E2 5 6 U ?_)))))
 have hc:=zuI hs hlb
 have hi:i≤ls.length:=by simpa using hlb.1
 refine zf (Sr (Om U (Og (zC U) U (E2 5 14 U ?_))))
 refine zP U (fun hT=>?_) (fun hF=>?_)
 ·refine za (Om U ?_)
  refine Og (yK U U (by omega)) U ?_
  refine Oa U (E1 5 U (Sr (Om U (Og (zok U U) U (Oa U (E1 4 U (zj ?_)))))))
  refine zw U U ?_
  have:zcJ (ls.map yO) key i=false:=by simpa using hT
  rw[this]at hc
  simp at hc
  refine⟨?_,c10⟩
  rw[hc]
  congr 1
  split<;>omega
 refine zm (Sr (Om U (Og (zok U U) U (Oa U (E1 4 U (zj ?_))))))
 refine zw U U ?_
 have:zcJ (ls.map yO) key i=true:=by simpa using hF
 rw[this]at hc
 simp at hc
 refine⟨?_,c10⟩
 rw[hc]
 congr 1
 split<;>omega
def spot(ls:LE)(key:By):Nat×Nat×Bool:=
 match ls[yN ls key-1]? with
 |some l=>(yN ls key-1,lbN l key,zep l key)
 |none=>(0,0,false)
theorem ziY{ls:LE}{key:By}(h:ls≠[]):yN ls key-1<ls.length:=by
 have:yN ls key≤ls.length:=(List.takeWhile_prefix _).length_le
 have:0<ls.length:=List.length_pos_iff.2 h
 omega
theorem f24(v:Va)(ls:LE)(key:By)(w:Wl)(hl:yJ w v ls)(hne:∀l∈ls,l≠[])(hn:ls.length≤4611686018427387903)(hs:zkq ls)(hsl:∀l∈ls,Srt l)(hnl:∀l∈ls,l.length≤4611686018427387903) :
 zT TP 120 #[v,.string key] w fun r w'=>r=.tuple #[Ii ((spot ls key).1:Nat),Ii ((spot ls key).2.1:Nat),.bool (spot ls key).2.2]∧zk [] w w':=by
 obtain⟨vs,hsl',hal⟩:=id hl
 obtain⟨p,c,rfl,_⟩:=hsl'.val
 refine A2 Tryz.func120 U U ?_
 refine Sr (Oa U (Oa U (Oa U (E2 0 1 U (zf (Sr (Om U (On za7 U (Og (zv U U) U (E3 0 1 9 U ?_))))))))))
 refine zP U (fun hT=>?_) (fun hF=>?_)
 ·refine Sr (Oa U (Oa U (Oa U (E3 4 5 6 U (zj ?_)))))
  refine zbM ?_
  refine zg5 U U U U ?_
  have:ls=[]:=List.eq_nil_of_length_eq_zero (by simpa using hT)
  subst this
  exact⟨U,zk.refl _ _⟩
 refine zm ?_
 have hls:ls≠[]:=by rintro rfl;simp at hF
 have hat:=ziY (key:=key) hls
 have hk:ls[yN ls key-1]? = some ls[yN ls key-1]:=by simp[hat]
 have hmem:ls[yN ls key-1]∈ls:=List.getElem_mem hat
 have hspot:spot ls key=(yN ls key-1,lbN ls[yN ls key-1] key,zep ls[yN ls key-1] key):=by unfold spot;rw[hk]
 refine Sr (Om U (Om U ?_))
 refine Oc zCk U U U (f39 _ ls key _ hl hne hn hs) ?_
 rintro v12 w12⟨rfl,c12⟩
 refine Oa U (E3 0 1 4 U ?_)
 obtain⟨bb,off,cap,u,hv,hc,hl'⟩:=(hl.chg0 c12).at hk
 cases hv
 refine Sr (Om U (Om U ?_))
 refine Og (zi za7 zbO U U _ U hat) U ?_
 refine Ol zem U hc (Om U ?_)
 refine Oc zBO U U U (f40 u _ key _ hl' (hnl _ hmem) (hsl _ hmem)) ?_
 rintro v19 w19⟨rfl,c19⟩
 refine Om U (Oe U U (Oe U U (Oa U (Oa U (E3 4 5 6 U (Sr (Om U (Om U (Om U (Oa U (Oa U (Oa U (E3 4 5 6 U (zj ?_))))))))))))))
 refine zg5 U U U U ?_
 rw[hspot]
 exact⟨U,c12.trans c19⟩
theorem f25(v:Va)(n:Nat)(xs:List Va)(w:Wl)(h:zA w 215 2 v n xs)(hn:n≤4294967296):zT TP 196 #[v] w fun r w'=>zA w' 215 2 r n xs∧(∀b∈zu r,w.heap.size≤b)∧zk [] w w':=by
 obtain⟨p,c,rfl,_⟩:=h.val
 refine A1 Tryz.func196 U U ?_
 refine Sr (Oa U (E1 0 U (zf (Sr (Om U (Og (zlQ yy U U) U (E2 0 4 U ?_)))))))
 refine zP U (fun hT=>?_) (fun hF=>?_)
 ·refine Sr (Oa U (E1 2 U (zj ?_)))
  refine zbM ?_
  refine zw U U ?_
  rcases h with⟨_,rfl,rfl⟩|⟨b,off,cap,cc,he,_⟩
  ·exact⟨zA.nil _ _ _,by simp[zu],zk.refl _ _⟩
  simp only[Value.slice.injEq]at he
  rw[he.1]at hT
  simp at hT
 refine zm (Sr ?_)
 refine Oq (zz ziQ U (vs:=[]) U (css:=[]) trivial U U (cs:=[]) U U ?_)
 intro b5 w5 e5 n5 c5 k5
 refine Om U ?_
 refine Oq (yo ziQ yy U U (zA.of_blk (n:=0) k5 (by simp) (by simp[maxLen]) (by simp)) (h.chg0 c5) (by simp only[maxLen];omega) (by omega) U ?_)
 intro v7 w7 i7 c7 o7 z7
 refine Oa U (E1 2 U (zj ?_))
 refine zw U U ?_
 refine⟨by simpa using i7,?_,c5.own c7 (by simp[zu,←e5])⟩
 rcases o7 with o7|⟨b,o7,hb⟩
 ·rw[o7];simp[zu,←e5]
 rw[o7];intro x hx;simp at hx;subst hx;have:=c5.size;omega
theorem f31(v:Va)(n:Nat)(xs:List Va)(w:Wl)(h:zA w 176 1 v n xs)(hn:n≤4294967296):zT TP 93 #[v] w fun r w'=>zA w' 176 1 r n xs∧(∀b∈zu r,w.heap.size≤b)∧zk [] w w':=by
 obtain⟨p,c,rfl,_⟩:=h.val
 refine A1 Tryz.func93 U U ?_
 refine Sr (Oa U (E1 0 U (zf (Sr (Om U (Og (zlQ za7 U U) U (E2 0 4 U ?_)))))))
 refine zP U (fun hT=>?_) (fun hF=>?_)
 ·refine Sr (Oa U (E1 2 U (zj ?_)))
  refine zbM ?_
  refine zw U U ?_
  rcases h with⟨_,rfl,rfl⟩|⟨b,off,cap,cc,he,_⟩
  ·exact⟨zA.nil _ _ _,by simp[zu],zk.refl _ _⟩
  simp only[Value.slice.injEq]at he
  rw[he.1]at hT
  simp at hT
 refine zm (Sr ?_)
 refine Oq (zz znz U (vs:=[]) U (css:=[]) trivial U U (cs:=[]) U U ?_)
 intro b5 w5 e5 n5 c5 k5
 refine Om U ?_
 refine Oq (yo znz za7 U U (zA.of_blk (n:=0) k5 (by simp) (by simp[maxLen]) (by simp)) (h.chg0 c5) (by simp only[maxLen];omega) (by omega) U ?_)
 intro v7 w7 i7 c7 o7 z7
 refine Oa U (E1 2 U (zj ?_))
 refine zw U U ?_
 refine⟨by simpa using i7,?_,c5.own c7 (by simp[zu,←e5])⟩
 rcases o7 with o7|⟨b,o7,hb⟩
 ·rw[o7];simp[zu,←e5]
 rw[o7];intro x hx;simp at hx;subst hx;have:=c5.size;omega
theorem f53(n:Nat)(w:Wl)(hn:n≤4294967296):zT TP 322 #[.slice none 0 0,Ii n] w fun r w'=>zA w' 176 1 r 0 []∧(∀b∈zu r,w.heap.size≤b)∧zk [] w w':=by
 refine A2 Tryz.func322 U U ?_
 refine Sr (Oa U (E2 0 1 U (zf (Sr (Om U (Og (zy U U) U (E3 0 1 6 U ?_)))))))
 refine zP U (fun hT=>?_) (fun hF=>?_)
 ·exfalso
  have:=of_decide_eq_true hT
  omega
 refine zm (zf (Sr (Om U (Om U (Og (zg3 za7 U) U (Om U (On za7 U ?_)))))))
 refine Og (yK U U (by omega)) U ?_
 refine Og (yr (v':=Ii n) (yK U U (by omega)) (by congr 1<;>omega)) U ?_
 refine Oa U (E2 0 1 U (Sr (Om U (Og (zS U U) U (E3 0 1 16 U ?_)))))
 refine zP U (fun hT=>?_) (fun hF=>?_)
 ·have hpos:0<n:=by have:=of_decide_eq_true hT;omega
  refine za (Om U (Om U (Og (zg3 za7 U) U ?_)))
  refine Og (zbk za7 zbO U U _ U (by omega)) U ?_
  refine Om U ?_
  refine Oq (zdG znz zaw U U U (zA.nil _ _ _) (fun p c he=>by simp[cut]at he;omega) (by simp only[maxLen];omega) (by omega) U ?_)
  intro b cap zs w22 hb c22 hge hle hzl hone k22
  refine Om U (On za7 U ?_)
  refine Og (zbk za7 zbO U U 0 U (by omega)) U ?_
  refine Oa U (E1 0 U (Sr (Om U (Oa U (E1 4 U (zj ?_))))))
  refine zw U U ?_
  have hsl:zeK w22 176 1 b 0 (0+n) cap ([]++zs) (((([]++zs):List Va).drop 0).take ((0+n)*1)):=⟨k22,hge,hle,by simp only[List.nil_append];omega,rfl,hone⟩
  have hc:=hsl.cut (l:=0) (h:=0) (m:=cap) (Nat.le_refl _) (Nat.zero_le _) (Nat.le_refl _)
  refine⟨by simpa using hc,fun x hx=>?_,c22⟩
  have:=zA.cutBlk (len:=0) (cap:=0) x hx
  simp[zu]at this
  omega
 refine zm (Sr (Om U (Oa U (E1 4 U (zj ?_)))))
 refine zw U U ?_
 exact⟨zA.nil _ _ _,by simp[zu],zk.refl _ _⟩
theorem f55(n:Nat)(w:Wl)(hn:n≤4294967296):zT TP 356 #[.slice none 0 0,Ii n] w fun r w'=>zA w' 215 2 r 0 []∧(∀b∈zu r,w.heap.size≤b)∧zk [] w w':=by
 refine A2 Tryz.func356 U U ?_
 refine Sr (Oa U (E2 0 1 U (zf (Sr (Om U (Og (zy U U) U (E3 0 1 6 U ?_)))))))
 refine zP U (fun hT=>?_) (fun hF=>?_)
 ·exfalso
  have:=of_decide_eq_true hT
  omega
 refine zm (zf (Sr (Om U (Om U (Og (zg3 yy U) U (Om U (On yy U ?_)))))))
 refine Og (yK U U (by omega)) U ?_
 refine Og (yr (v':=Ii n) (yK U U (by omega)) (by congr 1<;>omega)) U ?_
 refine Oa U (E2 0 1 U (Sr (Om U (Og (zS U U) U (E3 0 1 16 U ?_)))))
 refine zP U (fun hT=>?_) (fun hF=>?_)
 ·have hpos:0<n:=by have:=of_decide_eq_true hT;omega
  refine za (Om U (Om U (Og (zg3 yy U) U ?_)))
  refine Og (zbk yy zat U U _ U (by omega)) U ?_
  refine Om U ?_
  refine Oq (zdG ziQ zaw U U U (zA.nil _ _ _) (fun p c he=>by simp[cut]at he;omega) (by simp only[maxLen];omega) (by omega) U ?_)
  intro b cap zs w22 hb c22 hge hle hzl hone k22
  refine Om U (On yy U ?_)
  refine Og (zbk yy zat U U 0 U (by omega)) U ?_
  refine Oa U (E1 0 U (Sr (Om U (Oa U (E1 4 U (zj ?_))))))
  refine zw U U ?_
  have hsl:zeK w22 215 2 b 0 (0+n) cap ([]++zs) (((([]++zs):List Va).drop 0).take ((0+n)*2)):=⟨k22,hge,hle,by simp only[List.nil_append];omega,rfl,hone⟩
  have hc:=hsl.cut (l:=0) (h:=0) (m:=cap) (Nat.le_refl _) (Nat.zero_le _) (Nat.le_refl _)
  refine⟨by simpa using hc,fun x hx=>?_,c22⟩
  have:=zA.cutBlk (len:=0) (cap:=0) x hx
  simp[zu]at this
  omega
 refine zm (Sr (Om U (Oa U (E1 4 U (zj ?_)))))
 refine zw U U ?_
 exact⟨zA.nil _ _ _,by simp[zu],zk.refl _ _⟩
theorem f42(v:Va)(us:List Va)(xss:List (List Va))(w:Wl)(hu:zA w 173 1 v xss.length us)(ha:zhy w 176 1 us xss)(ht:zbT 1 xss xss.length≤4294967296)(hlen:xss.length≤4294967296) :
 zT TP 262 #[v] w fun r w'=>zA w' 176 1 r (zbT 1 xss xss.length) xss.flatten∧(∀b∈zu r,w.heap.size≤b)∧zk [] w w':=by
 have part:∀(wx:Wl) (i:Nat),zk [] w wx→i<xss.length→∃b off cap x p c,v=.slice (some ⟨b,off,none⟩) xss.length cap∧xss[i]? = some x∧wx.cell? ⟨b,off+i*1,none⟩=some (.slice p (x.length / 1) c)∧zA wx 176 1 (.slice p (x.length / 1) c) (x.length / 1) x:=by
  intro wx i hc hi
  obtain⟨b,off,cap,u,hv,hu',hcell⟩:=(hu.chg0 hc).at1 hi
  have hx:xss[i]? = some xss[i]:=by simp[hi]
  obtain⟨u',hu2,hs⟩:=(ha.chg0 hc).at hx
  rw[hu']at hu2
  simp at hu2
  subst hu2
  obtain⟨p,c,rfl,_⟩:=hs.val
  exact⟨b,off,cap,_,p,c,hv,hx,hcell,hs⟩
 obtain⟨pv,cv,rfl,_⟩:=hu.val
 refine A1 Tryz.func262 U U ?_
 refine Sr (Oa U (E1 0 U (Sr (Oa U (E2 0 3 U (zf (Sr (Om U (On zmj U (Om U (E5 0 3 9 10 11 U (zp ?_))))))))))))
 refine zR [0,3,9,10,11] (fun m F wx=>wx=w∧∃j:Nat,m=xss.length-j∧j≤xss.length∧F=[(0,.slice pv xss.length cv),(3,Ii (zbT 1 xss j:Nat)),(9,.slice pv xss.length cv),(10,Ii xss.length),(11,Ii j)]) (m:=xss.length-0) ⟨U,0,U,Nat.zero_le _,U⟩ ?_
 rintro m F wx⟨rfl,j,rfl,hj,rfl⟩
 have hmj:=zcp 1 xss hj
 refine Sr (Og (zy U U) U (E6 0 3 9 10 11 12 U (zf ?_)))
 refine zP U (fun hT=>?_) (fun hF=>?_)
 ·refine zm ?_
  have hlt:j<xss.length:=by simpa using hT
  obtain⟨b,off,cap,x,p,c,hv,hx,hcell,hs⟩:=part wx j (zk.refl _ _) hlt
  cases hv
  have hsucc:=zel (k:=1) hx
  have hmj2:=zcp 1 xss (show j+1≤xss.length by omega)
  refine zf (zp (Sr ?_))
  refine Og (zi zmj zjC U U _ U hlt) U ?_
  refine Ol zb5 U hcell (Oa U (E6 0 3 5 9 10 11 U (Sr (Om U (Om U (On za7 U ?_))))))
  refine Og (zG U U (by omega)) U ?_
  refine Oa U (E5 0 3 9 10 11 U (Sr (Om U (Og (zy U U) U (E6 0 3 9 10 11 20 U ?_)))))
  refine zP U (fun hT=>?_) (fun hF=>?_)
  ·exfalso
   have:=of_decide_eq_true hT
   omega
  refine zU (zl (za ?_))
  refine Og (zG U U (by omega)) U ?_
  refine Om U (N5 0 3 9 10 11 U ?_)
  refine⟨xss.length-(j+1),by omega,rfl,j+1,rfl,by omega,?_⟩
  rw[hsucc]
  rfl
 have hge:¬ j<xss.length:=by simpa using hF
 obtain rfl:j=xss.length:=by omega
 refine zH ?_
 repeat first|refine te ?_|refine bo rfl ?_
 refine zq _ ?_
 refine Sr (Om U ?_)
 refine Oc zBV U U U (f53 (zbT 1 xss xss.length) wx ht) ?_
 rintro v24 w24⟨i24,n24,c24⟩
 refine Oa U (E2 0 6 U (zf (Sr (Om U (On zmj U (Om U (E4 6 25 26 27 U (zp ?_))))))))
 refine zR [6,25,26,27] (fun m F wy=>∃(j:Nat) (acc:Va),m=xss.length-j∧j≤xss.length∧F=[(6,acc),(25,.slice pv xss.length cv),(26,Ii xss.length),(27,Ii j)]∧zA wy 176 1 acc (zbT 1 xss j) (xss.take j).flatten∧(∀b∈zu acc,wx.heap.size≤b)∧zk [] wx wy) (m:=xss.length-0) ⟨0,v24,rfl,Nat.zero_le _,rfl,by simpa[zbT] using i24,n24,c24⟩ ?_
 rintro m F wy⟨j,acc,rfl,hj,rfl,hacc,hnew,hcy⟩
 have hmj:=zcp 1 xss hj
 refine Sr (Og (zy U U) U (E5 6 25 26 27 28 U (zf ?_)))
 refine zP U (fun hT=>?_) (fun hF=>?_)
 ·refine zm ?_
  have hlt:j<xss.length:=by simpa using hT
  obtain⟨b,off,cap,x,p,c,hv,hx,hcell,hs⟩:=part wy j hcy hlt
  cases hv
  have hsucc:=zel (k:=1) hx
  have hmj2:=zcp 1 xss (show j+1≤xss.length by omega)
  refine zf (zp (Sr ?_))
  refine Og (zi zmj zjC U U _ U hlt) U ?_
  refine Ol zb5 U hcell (Oa U (E5 6 8 25 26 27 U (za (Om U (Om U ?_)))))
  refine Oq (yo znz za7 U U hacc hs (by simp only[maxLen];omega) (by omega) U ?_)
  intro v33 w33 i33 c33 o33 z33
  refine Oa U (N4 6 25 26 27 U (zl (za ?_)))
  refine Og (zG U U (by omega)) U ?_
  refine Om U (N4 6 25 26 27 U ?_)
  refine⟨xss.length-(j+1),by omega,j+1,v33,rfl,by omega,rfl,?_,?_,hcy.own c33 hnew⟩
  ·rw[hsucc,zeA hx]
   exact i33
  rcases o33 with o33|⟨b',o33,hb'⟩
  ·rw[o33];exact hnew
  rw[o33];intro y hy;simp at hy;subst hy;have:=hcy.size;omega
 have hge:¬ j<xss.length:=by simpa using hF
 obtain rfl:j=xss.length:=by omega
 refine zH ?_
 repeat first|refine te ?_|refine bo rfl ?_
 refine zq _ ?_
 refine Sr (Om U (Oa U (E1 2 U (zj ?_))))
 refine zw U U ?_
 rw[List.take_length]at hacc
 exact⟨hacc,hnew,hcy⟩
theorem f45(v:Va)(us:List Va)(xss:List (List Va))(w:Wl)(hu:zA w 176 1 v xss.length us)(ha:zhy w 215 2 us xss)(ht:zbT 2 xss xss.length≤4294967296)(hlen:xss.length≤4294967296) :
 zT TP 335 #[v] w fun r w'=>zA w' 215 2 r (zbT 2 xss xss.length) xss.flatten∧(∀b∈zu r,w.heap.size≤b)∧zk [] w w':=by
 have part:∀(wx:Wl) (i:Nat),zk [] w wx→i<xss.length→∃b off cap x p c,v=.slice (some ⟨b,off,none⟩) xss.length cap∧xss[i]? = some x∧wx.cell? ⟨b,off+i*1,none⟩=some (.slice p (x.length / 2) c)∧zA wx 215 2 (.slice p (x.length / 2) c) (x.length / 2) x:=by
  intro wx i hc hi
  obtain⟨b,off,cap,u,hv,hu',hcell⟩:=(hu.chg0 hc).at1 hi
  have hx:xss[i]? = some xss[i]:=by simp[hi]
  obtain⟨u',hu2,hs⟩:=(ha.chg0 hc).at hx
  rw[hu']at hu2
  simp at hu2
  subst hu2
  obtain⟨p,c,rfl,_⟩:=hs.val
  exact⟨b,off,cap,_,p,c,hv,hx,hcell,hs⟩
 obtain⟨pv,cv,rfl,_⟩:=hu.val
 refine A1 Tryz.func335 U U ?_
 refine Sr (Oa U (E1 0 U (Sr (Oa U (E2 0 3 U (zf (Sr (Om U (On ziS U (Om U (E5 0 3 9 10 11 U (zp ?_))))))))))))
 refine zR [0,3,9,10,11] (fun m F wx=>wx=w∧∃j:Nat,m=xss.length-j∧j≤xss.length∧F=[(0,.slice pv xss.length cv),(3,Ii (zbT 2 xss j:Nat)),(9,.slice pv xss.length cv),(10,Ii xss.length),(11,Ii j)]) (m:=xss.length-0) ⟨U,0,U,Nat.zero_le _,U⟩ ?_
 rintro m F wx⟨rfl,j,rfl,hj,rfl⟩
 have hmj:=zcp 2 xss hj
 refine Sr (Og (zy U U) U (E6 0 3 9 10 11 12 U (zf ?_)))
 refine zP U (fun hT=>?_) (fun hF=>?_)
 ·refine zm ?_
  have hlt:j<xss.length:=by simpa using hT
  obtain⟨b,off,cap,x,p,c,hv,hx,hcell,hs⟩:=part wx j (zk.refl _ _) hlt
  cases hv
  have hsucc:=zel (k:=2) hx
  have hmj2:=zcp 2 xss (show j+1≤xss.length by omega)
  refine zf (zp (Sr ?_))
  refine Og (zi ziS zbO U U _ U hlt) U ?_
  refine Ol zem U hcell (Oa U (E6 0 3 5 9 10 11 U (Sr (Om U (Om U (On yy U ?_))))))
  refine Og (zG U U (by omega)) U ?_
  refine Oa U (E5 0 3 9 10 11 U (Sr (Om U (Og (zy U U) U (E6 0 3 9 10 11 20 U ?_)))))
  refine zP U (fun hT=>?_) (fun hF=>?_)
  ·exfalso
   have:=of_decide_eq_true hT
   omega
  refine zU (zl (za ?_))
  refine Og (zG U U (by omega)) U ?_
  refine Om U (N5 0 3 9 10 11 U ?_)
  refine⟨xss.length-(j+1),by omega,rfl,j+1,rfl,by omega,?_⟩
  rw[hsucc]
  rfl
 have hge:¬ j<xss.length:=by simpa using hF
 obtain rfl:j=xss.length:=by omega
 refine zH ?_
 repeat first|refine te ?_|refine bo rfl ?_
 refine zq _ ?_
 refine Sr (Om U ?_)
 refine Oc zzh U U U (f55 (zbT 2 xss xss.length) wx ht) ?_
 rintro v24 w24⟨i24,n24,c24⟩
 refine Oa U (E2 0 6 U (zf (Sr (Om U (On ziS U (Om U (E4 6 25 26 27 U (zp ?_))))))))
 refine zR [6,25,26,27] (fun m F wy=>∃(j:Nat) (acc:Va),m=xss.length-j∧j≤xss.length∧F=[(6,acc),(25,.slice pv xss.length cv),(26,Ii xss.length),(27,Ii j)]∧zA wy 215 2 acc (zbT 2 xss j) (xss.take j).flatten∧(∀b∈zu acc,wx.heap.size≤b)∧zk [] wx wy) (m:=xss.length-0) ⟨0,v24,rfl,Nat.zero_le _,rfl,by simpa[zbT] using i24,n24,c24⟩ ?_
 rintro m F wy⟨j,acc,rfl,hj,rfl,hacc,hnew,hcy⟩
 have hmj:=zcp 2 xss hj
 refine Sr (Og (zy U U) U (E5 6 25 26 27 28 U (zf ?_)))
 refine zP U (fun hT=>?_) (fun hF=>?_)
 ·refine zm ?_
  have hlt:j<xss.length:=by simpa using hT
  obtain⟨b,off,cap,x,p,c,hv,hx,hcell,hs⟩:=part wy j hcy hlt
  cases hv
  have hsucc:=zel (k:=2) hx
  have hmj2:=zcp 2 xss (show j+1≤xss.length by omega)
  refine zf (zp (Sr ?_))
  refine Og (zi ziS zbO U U _ U hlt) U ?_
  refine Ol zem U hcell (Oa U (E5 6 8 25 26 27 U (za (Om U (Om U ?_)))))
  refine Oq (yo ziQ yy U U hacc hs (by simp only[maxLen];omega) (by omega) U ?_)
  intro v33 w33 i33 c33 o33 z33
  refine Oa U (N4 6 25 26 27 U (zl (za ?_)))
  refine Og (zG U U (by omega)) U ?_
  refine Om U (N4 6 25 26 27 U ?_)
  refine⟨xss.length-(j+1),by omega,j+1,v33,rfl,by omega,rfl,?_,?_,hcy.own c33 hnew⟩
  ·rw[hsucc,zeA hx]
   exact i33
  rcases o33 with o33|⟨b',o33,hb'⟩
  ·rw[o33];exact hnew
  rw[o33];intro y hy;simp at hy;subst hy;have:=hcy.size;omega
 have hge:¬ j<xss.length:=by simpa using hF
 obtain rfl:j=xss.length:=by omega
 refine zH ?_
 repeat first|refine te ?_|refine bo rfl ?_
 refine zq _ ?_
 refine Sr (Om U (Oa U (E1 2 U (zj ?_))))
 refine zw U U ?_
 rw[List.take_length]at hacc
 exact⟨hacc,hnew,hcy⟩
def Pg(w:Wl)(p:Nat)(ls:LE):Prop:=∃v,zO w p 178 [v]∧yJ w v ls
theorem Pg.chg0{w w':Wl}{p:Nat}{ls:LE}(h:Pg w p ls)(hc:zk [] w w'):Pg w' p ls:=
 let ⟨v,h1,h2⟩:=h; ⟨v,h1.chg0 hc,h2.chg0 hc⟩
theorem Pg.lt{w:Wl}{p:Nat}{ls:LE}(h:Pg w p ls):p<w.heap.size:=let ⟨_,h1,_⟩:=h;h1.lt
theorem Pg.chgO{w w':Wl}{p q:Nat}{ls ms:LE}(h:Pg w p ls)(hq:Pg w q ms)(hne:p≠q)(hc:zk [q] w w'):Pg w' p ls:=
 let ⟨v,h1,h2⟩:=h;let ⟨_,g1,_⟩:=hq; ⟨v,h1.chg hc (by simpa using hne),h2.chg1 g1 rfl rfl hc⟩
theorem f26(p:Nat)(ls new:LE)(lv:Va)(fr un:Nat)(w:Wl)(hp:Pg w p ls)(hnew:yJ w lv new)(h1:fr≤un)(h2:un≤ls.length)(hb1:ls.length≤1048576)(hb2:new.length≤1048576) :
 zT TP 197 #[Pt p,Ii fr,Ii un,lv] w fun r w'=>r=.tuple #[]∧Pg w' p (ls.take fr++new++ls.drop un)∧zk [p] w w':=by
 obtain⟨v,hb,vs,hsl,hal⟩:=hp
 obtain⟨nvs,hnsl,hnal⟩:=hnew
 obtain⟨pv,cv,rfl,hlc⟩:=hsl.val
 obtain⟨pn,cn,rfl,_⟩:=hnsl.val
 have hvl:=hsl.len_xs
 have hnl:=hnsl.len_xs
 have hA:zA w 176 1 (cut pv 0 fr fr 1) ((vs.take fr).length / 1) (vs.take fr):=by
  have:=hsl.cut (l:=0) (h:=fr) (m:=fr) (Nat.zero_le _) (Nat.le_refl _) (by omega) (by omega)
  simpa[show min fr vs.length=fr by omega] using this
 have hB:zA w 176 1 (.slice pn new.length cn) (nvs.length / 1) nvs:=by simpa[hnl] using hnsl
 have hC:zA w 176 1 (cut pv un ls.length cv 1) ((vs.drop un).length / 1) (vs.drop un):=by
  have:=hsl.cut (l:=un) (h:=ls.length) (m:=cv) (by omega) hlc (Nat.le_refl _) (Nat.le_refl _)
  have e:(vs.drop (un*1)).take ((ls.length-un)*1)=vs.drop un:=by rw[Nat.mul_one,Nat.mul_one,Tl (by simp;omega)]
  rw[e]at this
  simpa[hvl] using this
 have hS:zhy w 176 1 [cut pv 0 fr fr 1,.slice pn new.length cn,cut pv un ls.length cv 1] [vs.take fr,nvs,vs.drop un]:=⟨hA,hB,hC,trivial⟩
 have hsum:zbT 1 [vs.take fr,nvs,vs.drop un] 3=fr+new.length+(ls.length-un):=by
  simp[zbT,hvl,hnl,show min fr ls.length=fr by omega]
  omega
 refine A4 Tryz.func197 U U ?_
 refine zI (fun wz=>zk [] w wz) mix (by kernel_rfl) (zk.drew [] w) ?_
 refine Tm U (Tm U (Tp (fun _=>zB U) U (Td zap U (Tr (fun wz hz=>zg zb5 U ((hb.chg0 hz).cell' U)) U (Tm U (Tm U ?_))))))
 refine Tp (fun _=>zgi za7 zbO U U U _ _ U U (by omega) (by omega)) U ?_
 refine Tm U (Tm U (Tp (fun _=>zB U) U (Td zap U (Tr (fun wz hz=>zg zb5 U ((hb.chg0 hz).cell' U)) U (Tm U ?_)))))
 refine Tp (fun _=>zba za7 zbO U U _ U (by omega)) U ?_
 refine zaQ U (gn U) (zz zBP U (vs:=[_,_,_]) U (css:=[_,_,_]) ⟨U,U,U,trivial⟩ U U (cs:=[_,_,_]) U U ?_)
 intro b23 w23 e23 n23 c23 k23
 refine⟨.inl ((zk.drew [] w).trans c23),?_⟩
 refine Tc zCv U U U (f42 _ _ [vs.take fr,nvs,vs.drop un] _ (zA.of_blk (n:=3) k23 U (by simp[maxLen]) (by intro u hu;simp at hu;rcases hu with rfl|rfl|rfl<;>rfl)) (hS.chg0 ((zk.drew [] w).trans c23)) (by simp only[List.length_cons,List.length_nil];rw[hsum];omega) (by simp)) ?_
 rintro v24 w24⟨i24,n24,c24⟩
 obtain⟨p24,q24,rfl,_⟩:=i24.val
 refine⟨.inl (((zk.drew [] w).trans c23).trans c24),?_⟩
 refine Tp (fun _=>zB U) U (Td zap U ?_)
 refine zaQ U (gn U) (zt zjC U U U U (hb.chg0 (((zk.drew [] w).trans c23).trans c24)) (by simp) (by intro u hu;simp at hu;subst hu;rfl) ?_)
 intro wF nF cF kF
 refine⟨.inr (by kernel_rfl),?_⟩
 refine zdY [] (F':=[]) U ?_
 have hall:zk [] w w24:=((zk.drew [] w).trans c23).trans c24
 refine zgD U ⟨U,⟨_,kF,?_⟩,(hall.any (S:=[p])).transS cF⟩
 have hpg:yJ w24 (.slice p24 (zbT 1 [vs.take fr,nvs,vs.drop un] 3) q24) (ls.take fr++new++ls.drop un):=by
  refine⟨vs.take fr++nvs++vs.drop un,?_,((hal.take fr).append hnal |>.append (hal.drop un)).chg hall (by simp)⟩
  have hlen:(ls.take fr++new++ls.drop un).length=zbT 1 [vs.take fr,nvs,vs.drop un] 3:=by
   rw[hsum];simp;omega
  rw[hlen]
  simpa using i24
 exact hpg.chg1 (hb.chg0 hall) U U cF
theorem zzS:zfJ TP 263=some (Extern.SlicesOverlaps.overlaps #[175,175] #[4]):=by kernel_rfl
set_option maxHeartbeats 1000000 in
theorem f27(v u:Va)(i n:Nat)(xs ys:List Va)(w:Wl)(hv:zA w 215 2 v n xs)(hu:zA w 215 2 u 1 ys)(hi:i≤n)(hn:n≤1048576)(hap:∀b∈zu u,b∉zu v) :
 zT TP 198 #[v,Ii i,u] w fun r w'=>zA w' 215 2 r (n+1) (xs.take (i*2)++ys++xs.drop (i*2))∧zk (zu v) w w'∧(zu r=zu v∨∃b,zu r=[b]∧w.heap.size≤b):=by
 have hlx:=hv.len_xs
 have hly:=hu.len_xs
 obtain⟨pv,cv,rfl,hlc⟩:=hv.val
 obtain⟨pu,cu,rfl,_⟩:=hu.val
 refine A3 Tryz.func198 U U ?_
 refine Sr (Oa U (E3 0 1 2 U (Sr (Om U (Om U ?_)))))
 refine Og (zba yy zat U U _ U hi) U ?_
 refine E3 0 1 2 U (Sr (Om U (On zjo U (Oa U (E4 0 1 2 7 U (zf (Sr (Om U (Og (zv U U) U (E5 0 1 2 7 16 U (zb U (zm (zf ?_)))))))))))))
 refine za (Om U (On yy U (Oa U (E5 0 1 2 7 8 U (zf (Sr (Om U (Om U (Og (zv U U) U (E6 0 1 2 7 8 22 U ?_))))))))))
 refine zP U (fun hT=>?_) (fun hF=>?_)
 ·obtain rfl:i=n:=by have:=of_decide_eq_true hT;omega
  refine Sr (Om U (Om U ?_))
  refine Oq (yo ziQ zjo U U hv hu (by simp only[maxLen];omega) (by omega) U ?_)
  intro v25 w25 i25 c25 o25 z25
  refine Oa U (E1 6 U (zj ?_))
  refine zbM ?_
  refine zw U U ?_
  refine⟨?_,c25,o25⟩
  rw[Tl (by omega),List.drop_of_length_le (by omega),List.append_nil]
  exact i25
 have hlt:i<n:=by have:=of_decide_eq_false hF;omega
 refine zm (zf (Sr (Om U (Om U ?_))))
 refine Og (zG U U (by omega)) U ?_
 refine Om U (Og (zg3 yy U) U (Og (zS U U) U (E6 0 1 2 7 8 31 U ?_)))
 refine zP U (fun hT=>?_) (fun hF=>?_)
 ·have hgr:cv<n+1:=by have:=of_decide_eq_true hT;omega
  refine Sr (Om U (Om U ?_))
  refine Og (zbk yy zat U U i U (by omega)) U ?_
  refine Om U (Om U ?_)
  refine Og (zG U U (by omega)) U ?_
  refine Om U ?_
  refine Og (yr (v':=Ii ((n+1-i:Nat):Int)) (yK U U (by omega)) (by congr 1;omega)) U ?_
  have hcutA:zA w 215 2 (cut pv 0 i cv 2) i (xs.take (i*2)):=by simpa using hv.cut (l:=0) (h:=i) (m:=cv) (Nat.zero_le _) (by omega) (Nat.le_refl _) hi
  have hcutB:zA w 215 2 (cut pv i n cv 2) (n-i) (xs.drop (i*2)):=by
   have:=hv.cut (l:=i) (h:=n) (m:=cv) hi hlc (Nat.le_refl _) (Nat.le_refl _)
   rw[Tl (by simp;omega)]at this
   exact this
  have hAl:(xs.take (i*2)).length=i*2:=by simp;omega
  have hBl:(xs.drop (i*2)).length=(n-i)*2:=by simp;omega
  refine Oq (zdG ziQ zaw U U U hcutA (fun p c he=>by obtain⟨q,hq⟩:=zvn pv 0 i cv 2;rw[hq]at he;simp only[Value.slice.injEq]at he;omega) (by simp only[maxLen];omega) (by omega) U ?_)
  intro b cap zs w40 hb c40 hge hle hzl hone k40
  refine Og (yr (v':=.slice (some ⟨b,0,none⟩) (n+1) cap) (yg U) (by congr 1;omega)) U ?_
  refine E5 0 1 2 7 9 U (Sr (Om U (Om U ?_)))
  refine Og (yr (zba yy zat U U i U (by omega)) (zf6 (by omega))) U ?_
  refine Om U ?_
  refine Oq (zi5 (c:=1) yy zat U U (hu.chg0 c40) k40 (by omega) (by simp;omega) U ?_)
  intro w45 n45 c45 k45
  refine E4 0 1 7 9 U (zf ?_)
  have hc2:zk [] w w45.drew:=(c40.own c45 (by simp[←hb])).trans (zk.drew [] _)
  have k45':zO w45.drew b 215 _:=k45
  rw[show 0+i*2=(xs.take (i*2)).length by omega,zeo,Tl (show ys.length≤1*2 by omega)]at k45'
  rw[←List.append_assoc]at k45'
  refine zI (fun _=>True) mix (by kernel_rfl) trivial ?_
  refine Tm U (Tm U (Tm U ?_))
  refine Tp (fun _=>zG U U (by omega)) U ?_
  refine Tp (fun _=>yr (zba yy zat U U (i+1) U (by omega)) (zf6 (by omega))) U ?_
  refine Tm U (Tm U (Tp (fun _=>zba yy zat U U i U hi) U ?_))
  refine zaQ U (gn U) (zi5 (c:=n-i) yy zat U U (hcutB.chg0 hc2) k45' (by omega) (by simp only[List.length_append,List.length_drop,hAl];omega) U ?_)
  intro w54 n54 c54 k54
  refine⟨.inl trivial,?_⟩
  refine D1 9 U (Sr (Om U (Oa U (E1 6 U (zj ?_)))))
  refine zbM ?_
  refine zw U U ?_
  rw[show 0+(i+1)*2=(xs.take (i*2)++ys).length by rw[List.length_append];omega,zeo,Tl (show (xs.drop (i*2)).length≤(n-i)*2 by omega)]at k54
  refine⟨.inr ⟨b,0,cap,_,rfl,k54,(by omega),hle,?_,?_,?_⟩,((hc2.own c54 (by simp[←hb])).any),.inr ⟨b,rfl,by omega⟩⟩
  ·simp only[List.length_append,List.length_drop,hAl];omega
  ·rw[List.drop_zero,←List.append_assoc,List.take_left' (by simp only[List.length_append];omega)]
  intro q hq
  simp only[List.mem_append]at hq hone
  rcases hq with (hq|hq)|hq|hq
  ·exact hone q (.inl hq)
  ·exact hu.one_xs q hq
  ·exact hv.one_xs q (List.mem_of_mem_drop hq)
  exact hone q (.inr (List.mem_of_mem_drop (List.mem_of_mem_drop hq)))
 have hroom:n+1≤cv:=by have:=of_decide_eq_false hF;omega
 obtain⟨b,off,c,rfl,hs⟩:∃b off c,pv=some ⟨b,off,none⟩∧zeK w 215 2 b off n cv c xs:=by
  rcases hv with⟨he,_,_⟩|⟨b,off,cap,c,he,hs⟩
  ·simp only[Value.slice.injEq]at he;omega
  simp only[Value.slice.injEq]at he
  obtain⟨rfl,_,rfl⟩:=he
  exact⟨b,off,c,U,hs⟩
 obtain⟨bu,ou,cu',rfl,hsu⟩:∃b off c,pu=some ⟨b,off,none⟩∧zeK w 215 2 b off 1 cu c ys:=by
  rcases hu with⟨_,h1,_⟩|⟨b,off,cap,c,he,hs⟩
  ·omega
  simp only[Value.slice.injEq]at he
  obtain⟨rfl,_,rfl⟩:=he
  exact⟨b,off,c,U,hs⟩
 have hne:bu≠b:=by have:=hap bu (by simp[zu]);simpa[zu] using this
 have hfit:=hs.fit
 have hsn:zeK w 215 2 b off (n+1) cv c ((c.drop off).take ((n+1)*2)):=⟨hs.blk,hroom,hs.max,hs.fit,rfl,hs.one⟩
 have hsrc:=hsn.cut (l:=i) (h:=n+1) (m:=cv) (by omega) hroom (Nat.le_refl _)
 rw[zf6 (by omega)]at hsrc
 refine zm (Sr (Om U (Om U (Om U ?_))))
 refine Og (zG U U (by omega)) U ?_
 refine Og (yr (zbk yy zat U U (n+1) U hroom) zno) U (Oa U (E5 0 1 2 7 8 U (zf (Sr (Om U (Om U (Om U (Om U ?_))))))))
 refine Og (zG U U (by omega)) U ?_
 refine Og (yr (zba yy zat U U (i+1) U (by omega)) (zf6 (by omega))) U ?_
 refine Oq (zc1 zzS U U (zls U zjo zat hsu.blk hs.blk hne) U ?_)
 refine Og (zC U) U (E6 0 1 2 7 8 68 U (ze U (zf ?_)))
 refine zI (fun _=>True) mix (by kernel_rfl) trivial ?_
 refine Tm U (Tm U (Tm U ?_))
 refine Tp (fun _=>zG U U (by omega)) U ?_
 refine Tp (fun _=>yr (zba yy zat U U (i+1) U (by omega)) (zf6 (by omega))) U ?_
 refine Tm U (Tm U ?_)
 refine Tp (fun _=>yr (zba yy zat U U i U (by omega)) (zf6 (by omega))) U ?_
 refine zaQ U (gn U) (zi5 (c:=n-i) yy zat U U (hsrc.chg0 (zk.drew [] _)) (hs.blk.chg0 (zk.drew [] _)) (by omega) (by omega) U ?_)
 intro w77 n77 c77 k77
 refine⟨.inl trivial,?_⟩
 refine D3 0 1 2 U ?_
 have hc77:zk [b] w w77:=(zk.drew [b] w).transS c77
 have hu77:=hu.chg hc77 (by simpa[zu] using hne)
 refine Sr (Om U (Om U ?_))
 refine Og (yr (zba yy zat U U i U (by omega)) (zf6 (by omega))) U ?_
 refine Om U ?_
 refine Oq (zi5 (c:=1) yy zat U U hu77 k77 (by omega) (by rw[zcl (by simp;omega)];omega) U ?_)
 intro w82 n82 c82 k82
 refine E1 0 U (Sr (Om U (Oa U (E1 6 U (zj ?_)))))
 refine zbM ?_
 refine zw U U ?_
 have hB:((c.drop (off+i*2)).take ((n+1-i)*2)).take ((n-i)*2)=xs.drop (i*2):=by
  rw[List.take_take,hs.xs,List.drop_take,List.drop_drop]
  congr 1
  omega
 have hsplit:c=c.take (off+i*2)++(xs.drop (i*2)++c.drop (off+n*2)):=by
  have e1:c.drop (off+i*2)=xs.drop (i*2)++c.drop (off+n*2):=by
   have e2:=List.take_append_drop ((n-i)*2) (c.drop (off+i*2))
   rw[List.drop_drop,show off+i*2+(n-i)*2=off+n*2 by omega]at e2
   rw[←e2]
   congr 1
   rw[hs.xs,List.drop_take,List.drop_drop]
   congr 1
   omega
  rw[←e1,List.take_append_drop]
 have hAl:(c.take (off+i*2)).length=off+i*2:=by simp;omega
 obtain⟨R,hR,hRm⟩:=zow (c.take (off+i*2)) (xs.drop (i*2)) (c.drop (off+n*2)) ys (by simp;omega)
 rw[hB,Tl (show ys.length≤1*2 by omega)]at k82
 rw[←hsplit,hAl,show off+i*2+ys.length=off+(i+1)*2 by omega]at hR
 rw[hR]at k82
 refine⟨.inr ⟨b,off,cv,_,U,k82,hroom,hs.max,?_,?_,?_⟩,hc77.transS c82,.inl U⟩
 ·have hcl:c.length=(c.take (off+i*2)++(ys++(xs.drop (i*2)++R))).length:=by
   rw[←hR,zcl,zcl]
   ·simp;omega
   rw[zcl (by simp;omega)];omega
  rw[←hcl];exact hfit
 ·have e3:(c.take (off+i*2)).drop off=xs.take (i*2):=by
   rw[List.drop_take,hs.xs,List.take_take]
   congr 1
   omega
  rw[List.drop_append_of_le_length (by omega),e3,←List.append_assoc,←List.append_assoc,List.take_left' (by simp;omega)]
 intro q hq
 simp only[List.mem_append]at hq
 rcases hq with hq|hq|hq|hq
 ·exact hs.one q (List.mem_of_mem_take hq)
 ·exact hu.one_xs q hq
 ·exact hs.one_xs q (List.mem_of_mem_drop hq)
 rcases hRm q hq with h|h
 ·exact hs.one q (List.mem_of_mem_drop h)
 exact hs.one_xs q (List.mem_of_mem_drop h)
theorem f28(v:Va)(i n:Nat)(xs:List Va)(w:Wl)(hv:zA w 215 2 v n xs)(hi:i<n)(hn:n≤1048576) :
 zT TP 307 #[v,Ii i,Ii ((i:Int)+1)] w fun r w'=>zA w' 215 2 r (n-1) (xs.take (i*2)++xs.drop (i*2+2))∧zk (zu v) w w'∧zu r=zu v:=by
 have hlx:=hv.len_xs
 obtain⟨b,off,cv,c,rfl,hs⟩:∃b off cv c,v=.slice (some ⟨b,off,none⟩) n cv∧zeK w 215 2 b off n cv c xs:=by
  rcases hv with⟨_,rfl,_⟩|⟨b,off,cap,c,he,hs⟩
  ·omega
  exact⟨b,off,cap,c,he,hs⟩
 have hfit:=hs.fit
 have hlc:=hs.le
 refine A3 Tryz.func307 U U ?_
 refine Sr (Oa U (E3 0 1 2 U (Sr (Om U (Om U (Om U (Om U (On yy U ?_))))))))
 refine Og (zfk yy zat U U U U i (i+1) n U (by omega) U (by omega) (by omega) (by omega)) U ?_
 refine E3 0 1 2 U (zf (Sr (Om U (Om U ?_))))
 refine Og (vf (zv U U) (by simp;omega)) U ?_
 refine E4 0 1 2 16 U (zb U (zm (Sr (Om U (On yy U (Oa U (E4 0 1 2 7 U (zf ?_))))))))
 have hsrc:=hs.cut (l:=i+1) (h:=n) (m:=cv) (by omega) hlc (Nat.le_refl _)
 have hB:(c.drop (off+(i+1)*2)).take ((n-(i+1))*2)=xs.drop (i*2+2):=by
  rw[hs.xs,List.drop_take,List.drop_drop]
  congr 1
  ·omega
  congr 1;omega
 rw[hB]at hsrc
 have hBl:(xs.drop (i*2+2)).length=(n-(i+1))*2:=by simp;omega
 refine zI (fun _=>True) mix (by kernel_rfl) trivial ?_
 refine Tm U (Tm U ?_)
 refine Tp (fun _=>yr (zbk yy zat U U i U (by omega)) zno) U ?_
 refine Tm U (Tm U ?_)
 refine Tp (fun _=>zba yy zat U U (i+1) (by omega) (by omega)) U ?_
 refine zaQ U (gn U) (zkm yy zat yy U U (hs.blk.chg0 (zk.drew [] _)) (hsrc.chg0 (zk.drew [] _)) (by omega) hfit U ?_)
 intro w26 n26 c26 k26
 refine⟨.inl trivial,?_⟩
 refine Tp (fun _=>yr (v':=.slice (some ⟨b,off,none⟩) (n-1) cv) (yg U) (by congr 1;omega)) U ?_
 refine D2 0 7 U ?_
 have hl26:(yU c (off+i*2) (xs.drop (i*2+2))).length=c.length:=zcl (by omega)
 refine Sr (Om U (Om U (On yy U (Om U ?_))))
 refine Og (yr (zqS yy zat U U U (n-1) n U U (by omega) (by omega)) (zf6 (by omega))) U ?_
 refine Oq (zrH ziQ U k26 (by rw[hl26];omega) ?_)
 intro w31 zs n31 c31 hzl hzo k31
 refine E1 0 U (Sr (Om U (Oa U (E1 6 U (zj ?_)))))
 refine zw U U ?_
 have hl31:(yU (yU c (off+i*2) (xs.drop (i*2+2))) (off+(n-1)*2) zs).length=c.length:=by rw[zcl (by rw[hl26,hzl];omega),hl26]
 refine⟨.inr ⟨b,off,cv,_,rfl,k31,by omega,hs.max,by rw[hl31];exact hfit,?_,?_⟩,((zk.drew [b] w).transS c26).transS c31,rfl⟩
 ·have hA:(c.take (off+i*2)).drop off=xs.take (i*2):=by
   rw[List.drop_take,hs.xs,List.take_take]
   congr 1
   omega
  have hAl:(c.take (off+i*2)).length=off+i*2:=by simp;omega
  have e1:(yU c (off+i*2) (xs.drop (i*2+2))).take (off+(n-1)*2)=c.take (off+i*2)++xs.drop (i*2+2):=by
   unfold yU
   exact List.take_left' (by simp only[List.length_append,hAl];omega)
  unfold yU at e1 ⊢
  rw[e1,List.append_assoc,List.append_assoc,List.drop_append_of_le_length (by omega),hA,←List.append_assoc,List.take_left' (by simp only[List.length_append,List.length_take];omega)]
 intro q hq
 simp only[yU,List.mem_append]at hq
 rcases hq with (hq|hq)|hq
 ·have:=List.mem_of_mem_take hq
  simp only[List.mem_append]at this
  rcases this with (h|h)|h
  ·exact hs.one q (List.mem_of_mem_take h)
  ·exact hs.one_xs q (List.mem_of_mem_drop h)
  exact hs.one q (List.mem_of_mem_drop h)
 ·exact hzo q hq
 have:=List.mem_of_mem_drop hq
 simp only[List.mem_append]at this
 rcases this with (h|h)|h
 ·exact hs.one q (List.mem_of_mem_take h)
 ·exact hs.one_xs q (List.mem_of_mem_drop h)
 exact hs.one q (List.mem_of_mem_drop h)
def zf4(l:List Ent):LE:=if l.length≤8 then [l] else [l.take (l.length / 2),l.drop (l.length / 2)]
theorem yE.cutL{w:Wl}{p:Option Addr}{c:Nat}{l:List Ent}(h:yE w (.slice p l.length c) l){i m:Nat}(hi:i≤l.length)(h1:i≤m)(h2:m≤c):yE w (cut p 0 i m 2) (l.take i):=by
 have:=zA.cut h (l:=0) (h:=i) (m:=m) (Nat.zero_le _) h1 h2 hi
 unfold yE
 rw[zib,List.length_take]
 simpa[show min i l.length=i by omega] using this
theorem yE.cutR{w:Wl}{p:Option Addr}{c:Nat}{l:List Ent}(h:yE w (.slice p l.length c) l){i:Nat}(hi:i≤l.length)(hc:l.length≤c):yE w (cut p i l.length c 2) (l.drop i):=by
 have:=zA.cut h (l:=i) (h:=l.length) (m:=c) hi hc (Nat.le_refl _) (Nat.le_refl _)
 unfold yE
 rw[zgj,List.length_drop]
 rw[Tl (by simp[zgf];omega)]at this
 exact this
theorem yJ.one{w:Wl}{b:Nat}{v:Va}{l:List Ent}(hb:zO w b 176 [v])(hl:yE w v l):yJ w (.slice (some ⟨b,0,none⟩) 1 1) [l]:=
 ⟨[v],zA.of_blk (n:=1) hb rfl (by simp[maxLen]) (by intro u hu;simp at hu;subst hu;exact zA.one1 hl),hl,trivial⟩
theorem yJ.two{w:Wl}{b:Nat}{v u:Va}{l m:List Ent}(hb:zO w b 176 [v,u])(hl:yE w v l)(hm:yE w u m):yJ w (.slice (some ⟨b,0,none⟩) 2 2) [l,m]:=
 ⟨[v,u],zA.of_blk (n:=2) hb rfl (by simp[maxLen]) (by intro x hx;simp at hx;rcases hx with rfl|rfl;exact zA.one1 hl;exact zA.one1 hm),hl,hm,trivial⟩
theorem f29(p:Nat)(ls:LE)(a b:Va)(la lb:List Ent)(i:Nat)(w:Wl)(hp:Pg w p ls)(ha:yE w a la)(hb:yE w b lb)(hi:i+2≤ls.length)(hb1:ls.length≤1048576)(hla:la.length≤1048576)(hlb:lb.length≤1048576) :
 zT TP 308 #[Pt p,Ii i,.agg #[a,b]] w fun r w'=>r=.tuple #[]∧Pg w' p (ls.take i++zf4 (la++lb)++ls.drop (i+2))∧zk [p] w w':=by
 have hal:=zA.len_xs ha
 have hbl:=zA.len_xs hb
 obtain⟨pa,ca,rfl,_⟩:=zA.val ha
 obtain⟨pb,cb,rfl,_⟩:=zA.val hb
 refine A3 Tryz.func308 U U ?_
 refine Sr ?_
 refine Ob U U ?_
 intro b5 w5 e5 n5 c5 k5
 refine E3 0 1 5 U (zf ?_)
 have hS:zhy w 215 2 [.slice pa la.length ca,.slice pb lb.length cb] [flat la,flat lb]:=⟨by rw[hal,Nat.mul_div_cancel _ (by omega)];exact ha,by rw[hbl,Nat.mul_div_cancel _ (by omega)];exact hb,trivial⟩
 have hsum:zbT 2 [flat la,flat lb] 2=(la++lb).length:=by
  simp only[zbT,List.take_succ_cons,List.take_zero,List.map_cons,List.map_nil,List.sum_cons,List.sum_nil,hal,hbl,Nat.mul_div_cancel _ (show 0<2 by omega),List.length_append]
  omega
 have hll:(la++lb).length=la.length+lb.length:=by simp
 refine za ?_
 refine Og (zM zlp zbO U U 0 U (by omega)) U ?_
 refine Ol zem U (k5.cell' U) ?_
 refine Og (zM zlp zbO U U 1 U (by omega)) U ?_
 refine Ol zem U (k5.cell' U) ?_
 refine Oq (zz ziy U (vs:=[_,_]) U (css:=[_,_]) ⟨U,U,trivial⟩ U U (cs:=[_,_]) U U ?_)
 intro b12 w12 e12 n12 c12 k12
 refine Oc zzj U U U (f45 _ _ [flat la,flat lb] _ (zA.of_blk (n:=2) k12 U (by simp[maxLen]) (by intro u hu;simp at hu;rcases hu with rfl|rfl<;>rfl)) (hS.chg0 (c5.trans c12)) (by simp only[List.length_cons,List.length_nil];rw[hsum];omega) (by simp)) ?_
 rintro v13 w13⟨i13,n13,c13⟩
 have hboth:yE w13 v13 (la++lb):=by unfold yE;rw[zdR];simpa[hsum] using i13
 clear i13
 generalize la++lb=both at *
 obtain⟨p13,q13,rfl,hq13⟩:=zA.val hboth
 refine Oa U (E3 0 1 6 U ?_)
 have hc13:zk [] w w13:=(c5.trans c12).trans c13
 refine zf (Sr (Om U (On yy U (Og (zaZ U U) U (E4 0 1 6 16 U ?_)))))
 refine zP U (fun hT=>?_) (fun hF=>?_)
 ·have hle:both.length≤8:=by have:=of_decide_eq_true hT;omega
  refine Sr (Om U (Om U (Om U ?_)))
  refine Og (yr (v':=Ii ((i+2:Nat):Int)) (zG U U (by omega)) (by congr 1)) U ?_
  refine Om U ?_
  refine Oq (zz ziy U (vs:=[_]) U (css:=[_]) ⟨U,trivial⟩ U U (cs:=[_]) U U ?_)
  intro b22 w22 e22 n22 c22 k22
  refine Oc zjz U U U (f26 p ls [both] _ i (i+2) _ (hp.chg0 (hc13.trans c22)) (yJ.one k22 (hboth.chg0 c22)) (by omega) hi hb1 (by simp)) ?_
  rintro v23 w23⟨rfl,p23,c23⟩
  refine yB [] (F':=[]) U (zj ?_)
  refine zbM ?_
  refine zuj U ?_
  refine⟨U,?_,((hc13.trans c22).any (S:=[p])).transS c23⟩
  rw[zf4,if_pos hle]
  exact p23
 have hle:¬ both.length≤8:=by have:=of_decide_eq_false hF;omega
 refine zm (Sr (Om U (On yy U ?_)))
 refine Og (yr (v':=Ii ((both.length / 2:Nat):Int)) (zsG U U (by omega) (by omega)) (by congr 1)) U ?_
 refine Oa U (E4 0 1 6 7 U ?_)
 have hh:both.length / 2≤both.length:=Nat.div_le_self _ _
 refine zI (fun _=>True) mix (by kernel_rfl) trivial ?_
 refine Tm U (Tm U (Tm U ?_))
 refine Tp (fun _=>yr (v':=Ii ((i+2:Nat):Int)) (zG U U (by omega)) (by congr 1)) U ?_
 refine Tm U (Tm U (Tm U ?_))
 refine Tp (fun _=>zgi yy zat U U U _ _ U U (Nat.le_refl _) (by omega)) U ?_
 refine Tm U (Tm U ?_)
 refine Tp (fun _=>zba yy zat U U _ U hh) U ?_
 refine zaQ U (gn U) (zz ziy U (vs:=[_,_]) U (css:=[_,_]) ⟨U,U,trivial⟩ U U (cs:=[_,_]) U U ?_)
 intro b38 w38 e38 n38 c38 k38
 refine⟨.inl trivial,?_⟩
 have hc38:zk [] w13 w38:=(zk.drew [] w13).trans c38
 refine Tc zjz U U U (f26 p ls [both.take (both.length / 2),both.drop (both.length / 2)] _ i (i+2) _ (hp.chg0 (hc13.trans hc38)) (yJ.two k38 ((hboth.chg0 hc38).cutL hh (Nat.le_refl _) (by omega)) ((hboth.chg0 hc38).cutR hh hq13)) (by omega) hi hb1 (by simp)) ?_
 rintro v39 w39⟨rfl,p39,c39⟩
 refine⟨.inl trivial,?_⟩
 refine zdY [] (F':=[]) U ?_
 refine zgD U ⟨U,?_,((hc13.trans hc38).any (S:=[p])).transS c39⟩
 rw[zf4,if_neg hle]
 exact p39
end Go.Wk
